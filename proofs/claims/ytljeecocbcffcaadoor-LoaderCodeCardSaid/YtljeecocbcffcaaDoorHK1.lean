/- Texts that belong together, joined: what each one holds is told ahead of it. -/
import Derived.Test.YtljeecocbcffcaaDoorRows
import Derived.WalkKit
import Derived.WalkSpells
import Derived.WalkLawsBesides
import Derived.Maps.AppendAt
import Derived.Deep.AppendLies
import Derived.Deep.Draws
import Derived.Deep.OwnRows
import Derived.Deep.QuietTactic
import Derived.BigQuiet
import Derived.StillTailTactics
import Derived.RegionTactic
import Derived.Deep.RegionHeld3
import Derived.Deep.DeepCutAuto
import Derived.Deep.CutBlock
import Derived.OwnWalk
import Derived.Lib.Hide
import Derived.Laws.MakeOwn
import Derived.Shelf.Strconv.Itoa3
import Derived.Shelf.LaysM
import Derived.Shelf.LaysC
import Derived.Shelf.Strconv.ParseIntPublic10
import Derived.Shelf.Strconv.ErrVarParseInt
import Derived.Shelf.Small.Strs
import Derived.Shelf.Strings.Search1
import Derived.Shelf.Strings.Fields
import Derived.Shelf.Strings.BuilderK
import Derived.Shelf.Strings.BuilderF
import Derived.Test.YtljeecocbcffcaaDoorProg
import Derived.Lib.EndianBits
import Derived.Laws.BitsLemmas
import Derived.Laws.IdiomStrings
import Derived.Lib.OthersKept
import Derived.Laws.RangeAny
import Derived.Lib.ParseIntBCases
import Derived.Lib.IndexMore
import Derived.Lib.ParseIntB
import Derived.Lib.IndexBytes
/- Plain lemmas on memory that every text of this seat uses: a slice that reads as a list, a block known whole, appends, frames behind draws. -/
namespace Go.Proofs.YtljeecocbcffcaaDoor
open Go.RowKit
set_option linter.unusedVariables false
set_option linter.unusedSimpArgs false
set_option linter.unusedVariables false
theorem block_of_add (a : Addr) (n : Nat) : (a.add n).block = a.block := by unfold Addr.add; split <;> rfl
theorem add_of_add (a : Addr) (i j : Nat) : (a.add i).add j = a.add (i + j) := by
  unfold Addr.add
  by_cases hi : i = 0 <;> by_cases hj : j = 0 <;> simp [hi, hj, Nat.add_assoc]

def Reads (w : World) (B size : Nat) (A : Option Addr) (n : Nat) (xs : List Value) : Prop :=
  xs.length = n * size ∧ (0 < n → ∃ ad, A = some ad ∧ ad.block < B ∧ ∀ j u, xs[j]? = some u → w.cell? (ad.add j) = some u)

section
variable {w w' : World} {B B' size n : Nat} {A : Option Addr} {xs : List Value}
theorem Reads.none_ : Reads w B size A 0 [] := ⟨by simp, fun h => absurd h (by omega)⟩
theorem Reads.at_ {k : Nat} (h : Reads w B 1 A n xs) (hk : k < n) : ∃ ad u, A = some ad ∧ ad.block < B ∧ xs[k]? = some u ∧ w.cell? (ad.add k) = some u := by
  obtain ⟨ad, e, hb, hc⟩ := h.2 (by omega)
  have hl : k < xs.length := by have := h.1; omega
  exact ⟨ad, xs[k], e, hb, List.getElem?_eq_getElem hl, hc k _ (List.getElem?_eq_getElem hl)⟩
theorem Reads.keep (h : Reads w B size A n xs) (hk : ∀ p : Addr, p.block < B → w'.cell? p = w.cell? p) : Reads w' B size A n xs :=
  ⟨h.1, fun hn => by
    obtain ⟨ad, e, hb, hc⟩ := h.2 hn
    exact ⟨ad, e, hb, fun j u hu => (hk _ (by rw [block_of_add]; exact hb)).trans (hc j u hu)⟩⟩
theorem Reads.more (h : Reads w B size A n xs) (hB : B ≤ B') : Reads w B' size A n xs :=
  ⟨h.1, fun hn => by
    obtain ⟨ad, e, hb, hc⟩ := h.2 hn
    exact ⟨ad, e, by omega, hc⟩⟩
theorem Reads.below (h : Reads w B size A n xs) (hb : Below B w w') : Reads w' B size A n xs := h.keep fun _ hp => hb.cell hp
theorem Reads.drew (h : Reads w B size A n xs) : Reads w.drew B size A n xs := h
theorem Reads.drewN (h : Reads w B size A n xs) (k : Nat) : Reads (w.drewN k) B size A n xs := h
theorem Reads.alloc (h : Reads w B size A n xs) (hB : B ≤ w.heap.size) (o : Obj) : Reads (w.alloc o) B size A n xs := h.keep fun p hp => World.cell?_alloc_lt w o p (by omega)
theorem Reads.setCell (h : Reads w B size A n xs) {p : Addr} (hB : B ≤ p.block) (u : Value) : Reads (w.setCell p u) B size A n xs :=
  h.keep fun q hq => World.cell?_setCell_other w p q u (fun e => by subst e; omega)
theorem Reads.grown (h : Reads w B size A n xs) {row : Option Nat} (hg : w.grownBy w' row) (hB : B ≤ w.heap.size) (hr : ∀ g, row = some g → B ≤ g) : Reads w' B size A n xs :=
  h.keep fun p hp => World.cell?_of_block (hg.block p.block (by omega) (fun e => by have := hr _ e.symm; omega))
theorem Reads.cut (h : Reads w B size A n xs) {k cap : Nat} (hk : k ≤ n) (hc : n ≤ cap) :
    Reads w B size (if cap = k then A else A.map (·.add (k * size))) (n - k) (xs.drop (k * size)) := by
  refine ⟨by rw [List.length_drop, h.1, Nat.sub_mul], fun hn => ?_⟩
  obtain ⟨ad, rfl, hb, hcell⟩ := h.2 (by omega)
  rw [if_neg (by omega)]
  refine ⟨ad.add (k * size), rfl, by rw [block_of_add]; exact hb, fun j u hu => ?_⟩
  rw [add_of_add]
  exact hcell _ u (by rw [← hu, List.getElem?_drop])
theorem Reads.of_own {base : Nat} {e : TypeId} {c : Nat} (h : w.ownsRow base e size (.slice A n c) n xs) : Reads w w.heap.size size A n xs := by
  refine ⟨h.1, fun hn => ?_⟩
  obtain ⟨g, cap, hv, _, hlt⟩ := h.form hn
  have hA : A = some ⟨g, 0, none⟩ := by injection hv
  subst hA
  exact ⟨_, rfl, hlt, h.cells (g := g) rfl⟩
end
def Blk (w : World) (g : Nat) (t : TypeId) (cs : Array Value) : Prop := w.heap[g]? = some (.cells cs t (0, 0))

section
variable {w w' : World} {g : Nat} {t : TypeId} {cs : Array Value}
theorem Blk.lt (h : Blk w g t cs) : g < w.heap.size := by
  rcases Nat.lt_or_ge g w.heap.size with hlt | hge
  · exact hlt
  · unfold Blk at h; rw [Array.getElem?_eq_none hge] at h; cases h
theorem Blk.cell (h : Blk w g t cs) (i : Nat) : w.cell? ⟨g, i, none⟩ = cs[i]? := cell_of_row w g i cs t (0, 0) h
theorem Blk.frozen (h : Blk w g t cs) (i : Nat) : w.frozen? ⟨g, i, none⟩ = false := by
  unfold Blk at h
  simp [World.frozen?, h]
theorem Blk.new (w : World) (t : TypeId) (cs : Array Value) : Blk (w.alloc (.cells cs t)) w.heap.size t cs := heap_alloc_new w _
theorem Blk.drew (h : Blk w g t cs) : Blk w.drew g t cs := h
theorem Blk.drewN (h : Blk w g t cs) (n : Nat) : Blk (w.drewN n) g t cs := h
theorem Blk.alloc (h : Blk w g t cs) (o : Obj) : Blk (w.alloc o) g t cs := (Below.heap_alloc w o g h.lt).trans h
theorem Blk.set_ (h : Blk w g t cs) (i : Nat) (u : Value) : Blk (w.setCell ⟨g, i, none⟩ u) g t (cs.setIfInBounds i u) := by
  unfold Blk at h ⊢
  simp [World.setCell, Array.getElem?_modify, h]
theorem Blk.far (h : Blk w g t cs) {p : Addr} (hp : g ≠ p.block) (u : Value) : Blk (w.setCell p u) g t cs := (Below.heap_setCell w p u g hp).trans h
theorem Blk.below {B : Nat} (h : Blk w g t cs) (hb : Below B w w') (hg : g < B) : Blk w' g t cs := (hb.block g hg).trans h
theorem Blk.grown {row : Option Nat} (h : Blk w g t cs) (hb : w.grownBy w' row) (hg : some g ≠ row) : Blk w' g t cs := (hb.block g h.lt hg).trans h
theorem Blk.ne_ {g' : Nat} {t' : TypeId} {cs' : Array Value} (h : Blk w g t cs) (h' : Blk w g' t' cs') (hne : t ≠ t') : g ≠ g' := by
  rintro rfl
  unfold Blk at h h'
  rw [h] at h'
  injection h' with h'
  injection h' with _ ht
  exact hne ht
theorem own_blk_ne {base : Nat} {e : TypeId} {size n : Nat} {v : Value} {xs : List Value} (h : w.ownsRow base e size v n xs) (hg : Blk w g t cs) (hne : e ≠ t) : v.ownBlock ≠ some g := by
  rcases h.2 with ⟨rfl, _⟩ | ⟨g', cap, cur, rfl, _, hh, _⟩
  · simp [Value.ownBlock]
  · intro he
    have : g' = g := by simpa [Value.ownBlock] using he
    subst this
    exact Blk.ne_ (t := e) hh hg hne rfl
end
section
variable {P : Program} (w : World)

theorem run_append_of_nil (base : Nat) (t ty e : TypeId) (i : TypeInfo) (size : Nat) (ht : P.underlying t = some (.slice e)) (hi : P.info? e = some i)
    (v : Value) (n : Nat) (xs : List Value) (hown : w.ownsRow base e size v n xs) (c : Nat) : (Builtin.append_ #[t, t] ty #[v, .slice none 0 c]).run P w = .ok v w := by
  rcases hown.2 with ⟨rfl, rfl⟩ | ⟨g, cap, cur, rfl, _, _, hnc, _⟩
  · simp [Builtin.append_, run_underlying ht, sizeOf, typeInfo, hi, Builtin.lenOf, Builtin.firstCells]
  · simp [Builtin.append_, run_underlying ht, sizeOf, typeInfo, hi, Builtin.lenOf, Builtin.firstCells, hnc, storeCells]

theorem run_append_any (base : Nat) (t ty e : TypeId) (i : TypeInfo) (z : Value) (size bytes : Nat) (ht : P.underlying t = some (.slice e)) (hi : P.info? e = some i) (hz : i.zero = some z)
    (hsize : i.size = size) (hby : i.bytes = bytes) (hzs : z.cells.size = size) (hsz : 0 < size)
    (v : Value) (n : Nat) (xs : List Value) (hown : w.ownsRow base e size v n xs)
    (B : Nat) (A : Option Addr) (m c : Nat) (news : List Value) (hr : Reads w B size A m news) (h1 : ∀ u ∈ news, u.oneCell' = true)
    (h63 : n + m ≤ maxLen) (hbytes : (n + m) * bytes ≤ 140737488355328) (hbase : base ≤ w.heap.size) :
    ∃ v' w', (Builtin.append_ #[t, t] ty #[v, .slice A m c]).run P w = .ok v' w' ∧ w'.ownsRow base e size v' (n + m) (xs ++ news) ∧ w.grownBy w' v.ownBlock ∧
      (v'.ownBlock = v.ownBlock ∨ v'.ownBlock = some w.heap.size) := by
  rcases A with _ | ad
  · have hm : m = 0 := by
      rcases Nat.eq_zero_or_pos m with h0 | h0
      · exact h0
      · obtain ⟨ad, h, _⟩ := hr.2 h0
        cases h
    subst hm
    have hn : news = [] := List.eq_nil_of_length_eq_zero (by simpa using hr.1)
    subst hn
    exact ⟨v, w, run_append_of_nil w base t ty e i size ht hi v n xs hown c, by simpa using hown, World.grownBy.refl w _, .inl rfl⟩
  · have hcells : ∀ j u, news[j]? = some u → w.cell? (ad.add j) = some u := by
      intro j u hu
      rcases Nat.eq_zero_or_pos m with h0 | h0
      · subst h0
        have hn : news = [] := List.eq_nil_of_length_eq_zero (by simpa using hr.1)
        subst hn
        simp at hu
      · obtain ⟨ad', h, _, hc⟩ := hr.2 h0
        injection h with h
        subst h
        exact hc j u hu
    obtain ⟨v', w', hrun, h2, h3, _, h5⟩ := run_append_own_at (P := P) w base t ty e i z size bytes ht hi hz hsize hby hzs hsz v n xs hown ad m c news hr.1 hcells h1 h63 hbytes hbase
    exact ⟨v', w', hrun, h2, h3, h5⟩

theorem wp_append_any {o : Oper} {a : Act} {K : Act → World → Prop} {Q : Exit → Act → World → Prop} (s x : Operand) (t : TypeId)
    (ho : o.op = .call { callee := .builtin .append, args := #[s, x], argTypes := #[t, t] })
    (base : Nat) (e : TypeId) (i : TypeInfo) (z : Value) (size bytes : Nat) (ht : P.underlying t = some (.slice e)) (hi : P.info? e = some i) (hz : i.zero = some z)
    (hsize : i.size = size) (hby : i.bytes = bytes) (hzs : z.cells.size = size) (hsz : 0 < size)
    (v : Value) (n : Nat) (xs : List Value) (hs : a.eval s = v) (hown : w.ownsRow base e size v n xs)
    (B : Nat) (A : Option Addr) (m c : Nat) (news : List Value) (hx : a.eval x = .slice A m c) (hr : Reads w B size A m news) (h1 : ∀ u ∈ news, u.oneCell' = true)
    (h63 : n + m ≤ maxLen) (hbytes : (n + m) * bytes ≤ 140737488355328) (hbase : base ≤ w.heap.size)
    (h : ∀ v' w', w'.ownsRow base e size v' (n + m) (xs ++ news) → w.grownBy w' v.ownBlock → (v'.ownBlock = v.ownBlock ∨ v'.ownBlock = some w.heap.size) → K (a.put o.dst v') w') : o.wp P a w K Q := by
  obtain ⟨v', w', hrun, h2, h3, h4⟩ := run_append_any (P := P) w base t o.type e i z size bytes ht hi hz hsize hby hzs hsz v n xs hown B A m c news hr h1 h63 hbytes hbase
  unfold Oper.wp execOp
  simp only [ho, resolve, invoke, builtin, Sem.run_bind, Sem.run_pure, Result.andThen_ok, List.map_toArray, List.map_cons, List.map_nil, hs, hx, hrun]
  exact h v' w' h2 h3 h4

theorem wpList_append_any {ops : Array Oper} {rest : List Oper} {o : Oper} {a : Act} {Q : Exit → Act → World → Prop} (hgd : o.guard = none) (s x : Operand) (t : TypeId)
    (ho : o.op = .call { callee := .builtin .append, args := #[s, x], argTypes := #[t, t] })
    (base : Nat) (e : TypeId) (i : TypeInfo) (z : Value) (size bytes : Nat) (ht : P.underlying t = some (.slice e)) (hi : P.info? e = some i) (hz : i.zero = some z)
    (hsize : i.size = size) (hby : i.bytes = bytes) (hzs : z.cells.size = size) (hsz : 0 < size)
    (v : Value) (n : Nat) (xs : List Value) (hs : a.eval s = v) (hown : w.ownsRow base e size v n xs)
    (B : Nat) (A : Option Addr) (m c : Nat) (news : List Value) (hx : a.eval x = .slice A m c) (hr : Reads w B size A m news) (h1 : ∀ u ∈ news, u.oneCell' = true)
    (h63 : n + m ≤ maxLen) (hbytes : (n + m) * bytes ≤ 140737488355328) (hbase : base ≤ w.heap.size)
    (h : ∀ v' w', w'.ownsRow base e size v' (n + m) (xs ++ news) → w.grownBy w' v.ownBlock → (v'.ownBlock = v.ownBlock ∨ v'.ownBlock = some w.heap.size) → wpList P ops Q rest (a.put o.dst v') w') : wpList P ops Q (o :: rest) a w :=
  wpList_plain hgd fun _ hK => wp_append_any w s x t ho base e i z size bytes ht hi hz hsize hby hzs hsz v n xs hs hown B A m c news hx hr h1 h63 hbytes hbase fun v' w' h2 h3 h4 => hK _ _ (h v' w' h2 h3 h4)

theorem step_append_any {ops : Array Oper} {o : Oper} {a : Act} {K : Act → World → Prop} {Q : Exit → Act → World → Prop} {E : Prop} (hgd : o.guard = none) (s x : Operand) (t : TypeId)
    (ho : o.op = .call { callee := .builtin .append, args := #[s, x], argTypes := #[t, t] })
    (base : Nat) (e : TypeId) (i : TypeInfo) (z : Value) (size bytes : Nat) (ht : P.underlying t = some (.slice e)) (hi : P.info? e = some i) (hz : i.zero = some z)
    (hsize : i.size = size) (hby : i.bytes = bytes) (hzs : z.cells.size = size) (hsz : 0 < size)
    (v : Value) (n : Nat) (xs : List Value) (hs : a.eval s = v) (hown : w.ownsRow base e size v n xs)
    (B : Nat) (A : Option Addr) (m c : Nat) (news : List Value) (hx : a.eval x = .slice A m c) (hr : Reads w B size A m news) (h1 : ∀ u ∈ news, u.oneCell' = true)
    (h63 : n + m ≤ maxLen) (hbytes : (n + m) * bytes ≤ 140737488355328) (hbase : base ≤ w.heap.size)
    (h : ∀ v' w', w'.ownsRow base e size v' (n + m) (xs ++ news) → w.grownBy w' v.ownBlock → (v'.ownBlock = v.ownBlock ∨ v'.ownBlock = some w.heap.size) → K (a.put o.dst v') w') :
    if Region.wanted o (yielded ops a.tmps) = true then Oper.wp P o a w K Q else E := by
  have hw : Region.wanted o (yielded ops a.tmps) = true := by simp [Region.wanted, hgd]
  rw [if_pos hw]
  exact wp_append_any w s x t ho base e i z size bytes ht hi hz hsize hby hzs hsz v n xs hs hown B A m c news hx hr h1 h63 hbytes hbase h
end
theorem quiet_add {P : Program} {f : FuncId} {args : Array Value} {w : World} {a n : Nat} {v : Value}
    (h : Calls P f args (w.drewN (a + n)) fun e w' => e = .returned v ∧ ∃ m, w' = (w.drewN (a + n)).drewN m) :
    Calls P f args (w.drewN (a + n)) fun e w'' => e = .returned v ∧ ∃ m, w'' = w.drewN (a + m) :=
  h.mono fun _ _ ⟨he, m, hm⟩ => ⟨he, n + m, by rw [hm, World.drewN_drewN, Nat.add_assoc]⟩
theorem quiet_add_same {P : Program} {f : FuncId} {args : Array Value} {w : World} {a n : Nat} {v : Value}
    (h : Calls P f args (w.drewN (a + n)) fun e w' => e = .returned v ∧ w' = w.drewN (a + n)) :
    Calls P f args (w.drewN (a + n)) fun e w'' => e = .returned v ∧ ∃ m, w'' = w.drewN (a + m) :=
  h.mono fun _ _ ⟨he, hm⟩ => ⟨he, n, hm⟩
theorem quiet_add_left {P : Program} {f : FuncId} {args : Array Value} {w : World} {a n : Nat} {v : Value}
    (h : Calls P f args (w.drewN (a + n)) fun e w' => e = .returned v ∧ w.drewN (a + n) = w') :
    Calls P f args (w.drewN (a + n)) fun e w'' => e = .returned v ∧ ∃ m, w'' = w.drewN (a + m) :=
  h.mono fun _ _ ⟨he, hm⟩ => ⟨he, n, hm.symm⟩
theorem quiet_left {P : Program} {f : FuncId} {args : Array Value} {w : World} {n : Nat} {v : Value}
    (h : Calls P f args (w.drewN n) fun e w' => e = .returned v ∧ w.drewN n = w') : Calls P f args (w.drewN n) fun e w'' => e = .returned v ∧ ∃ m, w'' = w.drewN m :=
  h.mono fun _ _ ⟨he, hm⟩ => ⟨he, n, hm.symm⟩
theorem results_tmp4 {fn : Func} {t u v x : Tmp} (h : fn.results = #[.tmp t, .tmp u, .tmp v, .tmp x]) (tmps : Array Value) (P : Program) (w : World) :
    (results fn tmps).run P w = .ok (.tuple #[tmps.getD t undef, tmps.getD u undef, tmps.getD v undef, tmps.getD x undef]) w := by simp [results, h]
theorem results_tmp5 {fn : Func} {t u v x y : Tmp} (h : fn.results = #[.tmp t, .tmp u, .tmp v, .tmp x, .tmp y]) (tmps : Array Value) (P : Program) (w : World) :
    (results fn tmps).run P w = .ok (.tuple #[tmps.getD t undef, tmps.getD u undef, tmps.getD v undef, tmps.getD x undef, tmps.getD y undef]) w := by simp [results, h]
theorem below_drewN {B : Nat} {a w : World} (h : Below B a w) (n : Nat) : Below B a (w.drewN n) := ⟨h.os, h.tape, h.output, h.size, h.block⟩
theorem rowIs_drewN {w : World} {b : Nat} {t : TypeId} {n : Nat} {f : Nat → Value} (h : w.rowIs b t n f) (k : Nat) : (w.drewN k).rowIs b t n f := h
theorem grown_trans {a b c : World} (h : Grown a b) (k : Grown b c) : Grown a c :=
  ⟨World.keptBut_trans h.1 k.1, fun x => (k.2.1 x).trans (h.2.1 x), Nat.le_trans h.2.2 k.2.2⟩

theorem only_drewN {a w : World} {row : Option Nat} (h : a.grownBy w row) (n : Nat) : a.grownBy (w.drewN n) row := ⟨h.os, h.tape, h.output, h.size, h.block⟩
theorem only_drew {a w : World} {row : Option Nat} (h : a.grownBy w row) : a.grownBy w.drew row := ⟨h.os, h.tape, h.output, h.size, h.block⟩
theorem only_alloc {a w : World} {row : Option Nat} (h : a.grownBy w row) (o : Obj) : a.grownBy (w.alloc o) row :=
  ⟨h.os, h.tape, h.output, Nat.le_trans h.size (by simp), fun i hi hne => (Below.heap_alloc w o i (Nat.lt_of_lt_of_le hi h.size)).trans (h.block i hi hne)⟩
theorem only_setCell {a w : World} {g : Nat} (h : a.grownBy w (some g)) {p : Addr} (hp : p.block = g ∨ a.heap.size ≤ p.block) (u : Value) : a.grownBy (w.setCell p u) (some g) :=
  ⟨h.os, h.tape, h.output, by simpa [World.setCell] using h.size, fun i hi hne => (Below.heap_setCell w p u i (by
    rintro rfl
    rcases hp with hp | hp
    · exact hne (by rw [hp])
    · omega)).trans (h.block i hi hne)⟩
theorem only_of_below {a w : World} (h : Below a.heap.size a w) (row : Option Nat) : a.grownBy w row := ⟨h.os, h.tape, h.output, h.size, fun i hi _ => h.block i hi⟩
theorem run_make_rowN {P : Program} (t e : TypeId) (i : TypeInfo) (z : Value) (ht : P.underlying t = some (.slice e)) (hi : P.info? e = some i) (hz : i.zero = some z)
    (kl kc : IntKind) (n c : Nat) (hnc : n ≤ c) (hbytes : i.bytes * c ≤ 281474976710656) (h63 : c ≤ 9223372036854775807) (w : World) :
    (Instr.makeSlice t (.int kl (n : Int)) (.int kc (c : Int))).run P w = .ok (.slice (some ⟨w.heap.size, 0, none⟩) n c) (w.alloc (.cells (madeCells z.cells (c * i.size)) e)) := by
  have hb : (i.bytes : Int) * (c : Int) ≤ 281474976710656 := by
    have h : ((i.bytes * c : Nat) : Int) ≤ 281474976710656 := by omega
    rwa [Int.natCast_mul] at h
  have hr := run_make (P := P) w t e i z ht hi hz kl kc n c (by omega) (by omega) hb (by omega)
  simp only [Int.toNat_natCast] at hr
  exact hr
theorem run_makeMap_hint {P : Program} (t k e : TypeId) (kd : IntKind) (n : Int) (ht : P.underlying t = some (.map k e)) (w : World) :
    (Instr.makeMap t (some (.int kd n))).run P w = .ok (.map (some w.heap.size)) (w.alloc (.map #[] 0)) := by
  simp [Instr.makeMap, run_underlying ht]; rfl

/-- The call returned v, and nothing that was there has turned. -/
def RetV (v : Value) (w : World) (e : Ending) (w' : World) : Prop := e = .returned v ∧ Below w.heap.size w w'
theorem bcell {W w1 : World} (hb : Below W.heap.size W w1) : (∀ b o, b < W.heap.size → w1.cell? ⟨b, o, none⟩ = W.cell? ⟨b, o, none⟩) ∧ (∀ b o, b < W.heap.size → w1.frozen? ⟨b, o, none⟩ = W.frozen? ⟨b, o, none⟩) :=
  ⟨fun b o h => hb.cell (p := ⟨b, o, none⟩) h, fun b o h => hb.frozen (p := ⟨b, o, none⟩) h⟩

theorem _root_.Go.RowKit.Below.drewN' {B : Nat} {a w : World} (h : Below B a w) (n : Nat) : Below B a (w.drewN n) := below_drewN h n
theorem Reads.addr {w : World} {B n size : Nat} {A : Option Addr} {xs : List Value} (h : Reads w B size A n xs) (hn : 0 < n) (hs : 0 < size) :
    ∃ b off, A = some ⟨b, off, none⟩ ∧ b < B ∧ ∀ j u, xs[j]? = some u → w.cell? ⟨b, off + j, none⟩ = some u := by
  obtain ⟨ad, rfl, hb, hc⟩ := h.2 hn
  have hl : 0 < xs.length := by rw [h.1]; exact Nat.mul_pos hn hs
  have h0 := hc 0 _ (List.getElem?_eq_getElem hl)
  obtain ⟨b, off, spot⟩ := ad
  have hsp : spot = none := by simpa [Addr.add] using World.cell?_spot h0
  subst hsp
  refine ⟨b, off, rfl, hb, fun j u hu => ?_⟩
  have := hc j u hu
  unfold Addr.add at this
  split at this
  · rename_i h; subst h; simpa using this
  · simpa using this
def RetS (size n : Nat) (xs : List Value) (w : World) (e : Ending) (w' : World) : Prop :=
  ∃ A c, e = .returned (.slice A n c) ∧ Reads w' w'.heap.size size A n xs ∧ Below w.heap.size w w'
theorem RetS.of_own {w w' : World} {base e size n : Nat} {v : Value} {xs : List Value} (h : w'.ownsRow base e size v n xs) (hB : Below w.heap.size w w') : RetS size n xs w (.returned v) w' := by
  rcases h.2 with ⟨rfl, rfl⟩ | ⟨g, cap, cur, rfl, _⟩
  · exact ⟨_, _, rfl, Reads.of_own h, hB⟩
  · exact ⟨_, _, rfl, Reads.of_own h, hB⟩
/-- The facts on the blocks that a call lays at its beginning. -/
theorem lay1 (w : World) (x : Array Value) (t : TypeId) : Below w.heap.size w (w.alloc (.cells x t)) ∧ Blk (w.alloc (.cells x t)) w.heap.size t x :=
  ⟨(Below.refl _ _).alloc (Nat.le_refl _) _, Blk.new _ _ _⟩
theorem lay2 (w : World) (x y : Array Value) (t u : TypeId) : Below w.heap.size w ((w.alloc (.cells x t)).alloc (.cells y u)) ∧
    Blk ((w.alloc (.cells x t)).alloc (.cells y u)) w.heap.size t x ∧ Blk ((w.alloc (.cells x t)).alloc (.cells y u)) (w.heap.size + 1) u y :=
  ⟨((Below.refl _ _).alloc (Nat.le_refl _) _).alloc (by simp) _, (Blk.new _ _ _).alloc _, by simpa using Blk.new (w.alloc (.cells x t)) u y⟩
theorem lay3 (w : World) (x y z : Array Value) (t u v : TypeId) : Below w.heap.size w (((w.alloc (.cells x t)).alloc (.cells y u)).alloc (.cells z v)) ∧
    Blk (((w.alloc (.cells x t)).alloc (.cells y u)).alloc (.cells z v)) w.heap.size t x ∧ Blk (((w.alloc (.cells x t)).alloc (.cells y u)).alloc (.cells z v)) (w.heap.size + 1) u y ∧
    Blk (((w.alloc (.cells x t)).alloc (.cells y u)).alloc (.cells z v)) (w.heap.size + 1 + 1) v z := by
  obtain ⟨h1, h2, h3⟩ := lay2 w x y t u
  refine ⟨h1.alloc (by simp; omega) _, h2.alloc _, h3.alloc _, by simpa using Blk.new ((w.alloc (.cells x t)).alloc (.cells y u)) v z⟩
theorem _root_.Go.RowKit.Below.size' {B : Nat} {w w' : World} (h : Below B w w') : w.heap.size ≤ w'.heap.size := h.size
/-- append onto a slice of the call's own, out of a block that is known whole. -/
theorem app_own {P : Program} {ops : Array Oper} {rest : List Oper} {o : Oper} {a : Act} {Q : Exit → Act → World → Prop} {w : World} {t B e size bytes : Nat} {i : TypeInfo} {z v : Value} {n : Nat} {xs : List Value}
    (ht : P.underlying t = some (.slice e)) (hi : P.info? e = some i) (hz : i.zero = some z) (hsize : i.size = size) (hby : i.bytes = bytes) (hzs : z.cells.size = size) (hsz : 0 < size)
    (hown : w.ownsRow B e size v n xs) (hB : B ≤ w.heap.size) (hgd : o.guard = none) (s x : Operand)
    (ho : o.op = .call { callee := .builtin .append, args := #[s, x], argTypes := #[t, t] }) (hs : a.eval s = v)
    (g m c : Nat) (news : Array Value) (hx : a.eval x = .slice (some ⟨g, 0, none⟩) m c) (hb : Blk w g e news) (hl : news.size = m * size) (h1 : ∀ u ∈ news.toList, u.oneCell' = true)
    (h63 : n + m ≤ 1099511627776) (hbytes : (n + m) * bytes ≤ 140737488355328)
    (h : ∀ v' w', w'.ownsRow B e size v' (n + m) (xs ++ news.toList) → w.grownBy w' v.ownBlock → Below B w w' → (v'.ownBlock = v.ownBlock ∨ v'.ownBlock = some w.heap.size) → wpList P ops Q rest (a.put o.dst v') w') :
    wpList P ops Q (o :: rest) a w := by
  refine wpList_append_any w hgd s x t ho B e i z size bytes ht hi hz hsize hby hzs hsz v n xs hs hown (g + 1) (some ⟨g, 0, none⟩) m c news.toList hx ⟨by simpa using hl, fun _ => ⟨_, rfl, by simp, fun j u hu => ?_⟩⟩ h1 (by unfold maxLen; omega) hbytes hB ?_
  · have := hb.cell j
    have hadd : (⟨g, 0, none⟩ : Addr).add j = ⟨g, j, none⟩ := by unfold Addr.add; split <;> simp_all
    rw [hadd, this]; simpa using hu
  · intro v' w' hown' hg hat
    refine h v' w' hown' hg ?_ hat
    exact (Below.refl _ _).grown hg hB (fun k hk => (hown.lt k hk).1)
theorem step_app_own {P : Program} {ops : Array Oper} {o : Oper} {a : Act} {K : Act → World → Prop} {Q : Exit → Act → World → Prop} {E : Prop} {w : World} {t B e size bytes : Nat} {i : TypeInfo} {z v : Value} {n : Nat} {xs : List Value}
    (ht : P.underlying t = some (.slice e)) (hi : P.info? e = some i) (hz : i.zero = some z) (hsize : i.size = size) (hby : i.bytes = bytes) (hzs : z.cells.size = size) (hsz : 0 < size)
    (hown : w.ownsRow B e size v n xs) (hB : B ≤ w.heap.size) (hgd : o.guard = none) (s x : Operand)
    (ho : o.op = .call { callee := .builtin .append, args := #[s, x], argTypes := #[t, t] }) (hs : a.eval s = v)
    (g m c : Nat) (news : Array Value) (hx : a.eval x = .slice (some ⟨g, 0, none⟩) m c) (hb : Blk w g e news) (hl : news.size = m * size) (h1 : ∀ u ∈ news.toList, u.oneCell' = true)
    (h63 : n + m ≤ 1099511627776) (hbytes : (n + m) * bytes ≤ 140737488355328)
    (h : ∀ v' w', w'.ownsRow B e size v' (n + m) (xs ++ news.toList) → w.grownBy w' v.ownBlock → Below B w w' → (v'.ownBlock = v.ownBlock ∨ v'.ownBlock = some w.heap.size) → K (a.put o.dst v') w') :
    if Region.wanted o (yielded ops a.tmps) = true then Oper.wp P o a w K Q else E := by
  refine step_append_any w hgd s x t ho B e i z size bytes ht hi hz hsize hby hzs hsz v n xs hs hown (g + 1) (some ⟨g, 0, none⟩) m c news.toList hx ⟨by simpa using hl, fun _ => ⟨_, rfl, by simp, fun j u hu => ?_⟩⟩ h1 (by unfold maxLen; omega) hbytes hB ?_
  · have := hb.cell j
    have hadd : (⟨g, 0, none⟩ : Addr).add j = ⟨g, j, none⟩ := by unfold Addr.add; split <;> simp_all
    rw [hadd, this]; simpa using hu
  · intro v' w' hown' hg hat
    refine h v' w' hown' hg ?_ hat
    exact (Below.refl _ _).grown hg hB (fun k hk => (hown.lt k hk).1)
theorem _root_.Go.World.ownsRow.drewN {w : World} {base e size n : Nat} {v : Value} {xs : List Value} (h : w.ownsRow base e size v n xs) (k : Nat) : (w.drewN k).ownsRow base e size v n xs := h
theorem _root_.Go.World.ownsRow.drew' {w : World} {base e size n : Nat} {v : Value} {xs : List Value} (h : w.ownsRow base e size v n xs) : w.drew.ownsRow base e size v n xs := h
theorem _root_.Go.World.ownsRow.below {w w' : World} {base e size n : Nat} {v : Value} {xs : List Value} (h : w.ownsRow base e size v n xs) (hb : Below w.heap.size w w') : w'.ownsRow base e size v n xs := by
  refine ⟨h.1, ?_⟩
  rcases h.2 with hn | ⟨g, cap, cur, rfl, hb', hgg, rest⟩
  · exact .inl hn
  · refine .inr ⟨g, cap, cur, rfl, hb', ?_, rest⟩
    rw [hb.block g (Array.getElem?_eq_some_iff.1 hgg).1]
    exact hgg
/-- A two-step road: below B across a call that keeps all. -/
theorem _root_.Go.RowKit.Below.call {B : Nat} {a w w' : World} (h : Below B a w) (hB : B ≤ w.heap.size) (k : Below w.heap.size w w') : Below B a w' := h.trans (k.mono hB)
theorem Blk.call {w w' : World} {g : Nat} {t : TypeId} {cs : Array Value} (h : Blk w g t cs) (k : Below w.heap.size w w') : Blk w' g t cs := h.below k h.lt
theorem Reads.call {w w' : World} {size n : Nat} {A : Option Addr} {xs : List Value} (h : Reads w w.heap.size size A n xs) (k : Below w.heap.size w w') : Reads w' w'.heap.size size A n xs := (h.below k).more k.size

theorem ownsRow_pos {w : World} {base e size n : Nat} {v : Value} {xs : List Value} (h : w.ownsRow base e size v n xs) (hn : 0 < n) : ∃ g cap, v = .slice (some ⟨g, 0, none⟩) n cap ∧ base ≤ g ∧ g < w.heap.size := by
  rcases h.2 with ⟨rfl, rfl⟩ | ⟨g, cap, cur, rfl, hb, hg, _⟩
  · omega
  · exact ⟨g, cap, rfl, hb, (Array.getElem?_eq_some_iff.1 hg).1⟩

/-- All that lay when a region began reads as it did. -/
def SBel (wr w' : World) : Prop := wr.heap.size ≤ w'.heap.size ∧ ∀ b o, b < wr.heap.size → w'.cell? ⟨b, o, none⟩ = wr.cell? ⟨b, o, none⟩
theorem SBel.refl (wr : World) : SBel wr wr := ⟨Nat.le_refl _, fun _ _ _ => rfl⟩
theorem SBel.drew {wr : World} : SBel wr wr.drew := ⟨Nat.le_refl _, fun _ _ _ => rfl⟩
theorem SBel.alloc {wr w : World} (h : SBel wr w) (o : Obj) : SBel wr (w.alloc o) :=
  ⟨by have := h.1; simp; omega, fun b k hb => by rw [World.cell?_alloc_lt w o ⟨b, k, none⟩ (by have := h.1; simp; omega)]; exact h.2 b k hb⟩
theorem SBel.below {wr w w' : World} (h : SBel wr w) (k : Below w.heap.size w w') : SBel wr w' :=
  ⟨Nat.le_trans h.1 k.size, fun b o hb => (k.cell (p := ⟨b, o, none⟩) (by have := h.1; simp; omega)).trans (h.2 b o hb)⟩
theorem SBel.set {wr w : World} (h : SBel wr w) {p : Addr} (hp : wr.heap.size ≤ p.block) (v : Value) : SBel wr (w.setCell p v) :=
  ⟨by simpa [World.setCell] using h.1, fun b o hb => by rw [World.cell?_setCell_other w p ⟨b, o, none⟩ v (fun e => by subst e; simp at hp; omega)]; exact h.2 b o hb⟩
/-- All that lay below B when a region began reads as it did. -/
def SBl (B : Nat) (wr w' : World) : Prop := B ≤ w'.heap.size ∧ ∀ b o, b < B → w'.cell? ⟨b, o, none⟩ = wr.cell? ⟨b, o, none⟩
theorem SBl.drew {B : Nat} {wr : World} (h : B ≤ wr.heap.size) : SBl B wr wr.drew := ⟨h, fun _ _ _ => rfl⟩
theorem SBl.alloc {B : Nat} {wr w : World} (h : SBl B wr w) (o : Obj) : SBl B wr (w.alloc o) :=
  ⟨by have := h.1; simp; omega, fun b k hb => by rw [World.cell?_alloc_lt w o ⟨b, k, none⟩ (by have := h.1; simp; omega)]; exact h.2 b k hb⟩
theorem SBl.below {B C : Nat} {wr w w' : World} (h : SBl B wr w) (k : Below C w w') (hC : B ≤ C) : SBl B wr w' :=
  ⟨Nat.le_trans h.1 k.size, fun b o hb => (k.cell (p := ⟨b, o, none⟩) (by simp; omega)).trans (h.2 b o hb)⟩
theorem SBl.call {B : Nat} {wr w w' : World} (h : SBl B wr w) (k : Below w.heap.size w w') : SBl B wr w' := h.below k h.1
theorem SBl.set {B : Nat} {wr w : World} (h : SBl B wr w) {p : Addr} (hp : B ≤ p.block) (v : Value) : SBl B wr (w.setCell p v) :=
  ⟨by simpa [World.setCell] using h.1, fun b o hb => by rw [World.cell?_setCell_other w p ⟨b, o, none⟩ v (fun e => by subst e; simp at hp; omega)]; exact h.2 b o hb⟩
/-- A call, then a new block: what lay lies. -/
theorem call_box {wr w1 : World} (hb : Below wr.drew.heap.size wr.drew w1) (cs : Array Value) (t : TypeId) :
    Below wr.heap.size wr (w1.alloc (.cells cs t)) ∧ Blk (w1.alloc (.cells cs t)) w1.heap.size t cs :=
  ⟨((Below.refl _ wr).drew.trans hb).alloc hb.size _, Blk.new _ _ _⟩
/-- A new block, a call, then the block's two cells are filled. -/
theorem box_call2 {wr w1 : World} {z : Array Value} {t : TypeId} (hb : Below (wr.drew.alloc (.cells z t)).heap.size (wr.drew.alloc (.cells z t)) w1) (hz : z.size = 2) (u v : Value) :
    Below wr.heap.size wr ((w1.setCell ⟨wr.heap.size, 0, none⟩ u).setCell ⟨wr.heap.size, 1, none⟩ v) ∧ Blk ((w1.setCell ⟨wr.heap.size, 0, none⟩ u).setCell ⟨wr.heap.size, 1, none⟩ v) wr.heap.size t #[u, v] := by
  have hb' : Below wr.heap.size wr w1 := ((Below.refl _ wr).drew.alloc (Nat.le_refl _) _).trans (hb.mono (by simp))
  refine ⟨(hb'.setCell (Nat.le_refl _) _).setCell (Nat.le_refl _) _, ?_⟩
  have h0 : Blk (wr.drew.alloc (.cells z t)) wr.heap.size t z := Blk.new wr.drew t z
  have h1 := ((h0.below hb h0.lt).set_ 0 u).set_ 1 v
  have e : (z.setIfInBounds 0 u).setIfInBounds 1 v = #[u, v] := by
    obtain ⟨l⟩ := z
    match l, hz with
    | [x, y], _ => rfl
  rwa [e] at h1
/-- A block of two cells is filled. -/
theorem fill2 {wr w2 : World} {z : Array Value} {t g : Nat} (hb : Below wr.heap.size wr w2) (bz : Blk w2 g t z) (hz : z.size = 2) (hg : wr.heap.size ≤ g) (u v : Value) :
    Below wr.heap.size wr ((w2.setCell ⟨g, 0, none⟩ u).setCell ⟨g, 1, none⟩ v) ∧ Blk ((w2.setCell ⟨g, 0, none⟩ u).setCell ⟨g, 1, none⟩ v) g t #[u, v] := by
  refine ⟨(hb.setCell hg _).setCell hg _, ?_⟩
  have h1 := (bz.set_ 0 u).set_ 1 v
  have e : (z.setIfInBounds 0 u).setIfInBounds 1 v = #[u, v] := by
    obtain ⟨l⟩ := z
    match l, hz with
    | [x, y], _ => rfl
  rwa [e] at h1
/-- after_call2: both together, as the walk leaves them. -/
theorem _root_.Go.World.ownsRow.keep {w w' : World} {base e size n B : Nat} {v : Value} {xs : List Value} (h : w.ownsRow base e size v n xs) (hb : Below B w w') (hB : w.heap.size ≤ B) : w'.ownsRow base e size v n xs := h.below (hb.mono hB)
theorem Reads.alloc' {w : World} {size n : Nat} {A : Option Addr} {xs : List Value} (h : Reads w w.heap.size size A n xs) (o : Obj) : Reads (w.alloc o) (w.alloc o).heap.size size A n xs := (h.alloc (Nat.le_refl _) o).more (by simp)
theorem Reads.up {w w' : World} {B size n : Nat} {A : Option Addr} {xs : List Value} (h : Reads w B size A n xs) (k : Below B w w') (hB : B ≤ w'.heap.size) : Reads w' w'.heap.size size A n xs := (h.below k).more hB

/-! A slice of the call's own that begins anywhere in its block (a queue that is cut at its head). -/
def ownsOff (w : World) (B : Nat) (e : TypeId) (size : Nat) (v : Value) (n : Nat) (xs : List Value) : Prop :=
  xs.length = n * size ∧ ∃ g o cap cur, v = .slice (some ⟨g, o, none⟩) n cap ∧ B ≤ g ∧ w.heap[g]? = some (.cells cur e (0, 0)) ∧ n ≤ cap ∧ cap ≤ maxLen ∧ o + cap * size ≤ cur.size ∧ (cur.toList.drop o).take (n * size) = xs
theorem ownsOff.of_own {w : World} {B e size n : Nat} {v : Value} {xs : List Value} (h : w.ownsRow B e size v n xs) (hn : 0 < n) : ownsOff w B e size v n xs := by
  rcases h.2 with ⟨rfl, rfl⟩ | ⟨g, cap, cur, rfl, hb, hg, hc, hm, hs, ht⟩
  · omega
  · exact ⟨h.1, g, 0, cap, cur, rfl, hb, hg, hc, hm, by omega, by simpa using ht⟩
theorem ownsOff.keep {w w' : World} {B e size n : Nat} {v : Value} {xs : List Value} (h : ownsOff w B e size v n xs) (hk : ∀ g cur t, v.ownBlock = some g → w.heap[g]? = some (.cells cur t (0, 0)) → w'.heap[g]? = some (.cells cur t (0, 0))) : ownsOff w' B e size v n xs := by
  obtain ⟨h1, g, o, cap, cur, rfl, hb, hg, rest⟩ := h
  exact ⟨h1, g, o, cap, cur, rfl, hb, hk g cur e rfl hg, rest⟩
theorem ownsOff.lt {w : World} {B e size n : Nat} {v : Value} {xs : List Value} (h : ownsOff w B e size v n xs) : ∃ g, v.ownBlock = some g ∧ B ≤ g ∧ g < w.heap.size := by
  obtain ⟨h1, g, o, cap, cur, rfl, hb, hg, rest⟩ := h
  exact ⟨g, rfl, hb, (Array.getElem?_eq_some_iff.1 hg).1⟩
theorem ownsOff.below {w w' : World} {B e size n : Nat} {v : Value} {xs : List Value} (h : ownsOff w B e size v n xs) (hb : Below w.heap.size w w') : ownsOff w' B e size v n xs := by
  obtain ⟨g', e', _, hlt⟩ := h.lt
  exact h.keep fun g cur t hg hh => by rw [e'] at hg; injection hg with hg; subst hg; rw [hb.block _ hlt]; exact hh
theorem ownsOff.alloc {w : World} {B e size n : Nat} {v : Value} {xs : List Value} (h : ownsOff w B e size v n xs) (o : Obj) : ownsOff (w.alloc o) B e size v n xs := h.below ((Below.refl _ _).alloc (Nat.le_refl _) _)
theorem ownsOff.drewN {w : World} {B e size n : Nat} {v : Value} {xs : List Value} (h : ownsOff w B e size v n xs) (k : Nat) : ownsOff (w.drewN k) B e size v n xs := h
theorem ownsOff.form {w : World} {B e size n : Nat} {v : Value} {xs : List Value} (h : ownsOff w B e size v n xs) : ∃ g o cap, v = .slice (some ⟨g, o, none⟩) n cap ∧ B ≤ g ∧ g < w.heap.size ∧ n ≤ cap ∧ cap ≤ maxLen ∧ ∀ j, j < n * size → w.cell? ⟨g, o + j, none⟩ = xs[j]? := by
  obtain ⟨h1, g, o, cap, cur, rfl, hb, hg, hc, hm, hs, ht⟩ := h
  refine ⟨g, o, cap, rfl, hb, (Array.getElem?_eq_some_iff.1 hg).1, hc, hm, fun j hj => ?_⟩
  rw [cell_of_row w g (o + j) cur e (0, 0) hg, ← ht, List.getElem?_take, if_pos hj, List.getElem?_drop]
  simp
theorem ownsOff.tail {w : World} {B e size n g o cap : Nat} {xs : List Value} (h : ownsOff w B e size (.slice (some ⟨g, o, none⟩) (n + 1) cap) (n + 1) xs) :
    ownsOff w B e size (.slice (some (if cap = 1 then ⟨g, o, none⟩ else ⟨g, o + size, none⟩)) n (cap - 1)) n (xs.drop size) := by
  obtain ⟨h1, g', o', cap', cur, e', hb, hg, hc, hm, hs, ht⟩ := h
  injection e' with e1 e2 e3
  injection e1 with e1
  injection e1 with e4 e5
  subst e3 e4 e5
  refine ⟨by rw [List.length_drop, h1, Nat.succ_mul]; omega, ?_⟩
  by_cases h0 : cap = 1
  · subst h0
    obtain rfl : n = 0 := by omega
    refine ⟨g, o, 0, cur, by simp, hb, hg, by omega, by omega, by omega, ?_⟩
    have hxs : xs.length = size := by rw [h1]; simp
    rw [List.drop_eq_nil_of_le (Nat.le_of_eq hxs), Nat.zero_mul, List.take_zero]
  · rw [if_neg h0]
    obtain ⟨d, rfl⟩ : ∃ d, cap = d + 1 := ⟨cap - 1, by omega⟩
    refine ⟨g, o + size, d, cur, by simp, hb, hg, by omega, by omega, by rw [Nat.succ_mul] at hs; omega, ?_⟩
    rw [← ht, List.drop_take, List.drop_drop, Nat.succ_mul, Nat.add_sub_cancel]
theorem app_off {P : Program} {w : World} {t B e size bytes : Nat} {i : TypeInfo} {z v : Value} {n : Nat} {xs : List Value}
    (ht : P.underlying t = some (.slice e)) (hi : P.info? e = some i) (hz : i.zero = some z) (hsize : i.size = size) (hby : i.bytes = bytes) (hzs : z.cells.size = size) (hsz : 0 < size)
    (hown : ownsOff w B e size v n xs) (hB : B ≤ w.heap.size)
    (g m c : Nat) (news : Array Value) (hb : Blk w g e news) (hl : news.size = m * size) (h1 : ∀ u ∈ news.toList, u.oneCell' = true) (hm : 0 < m)
    (h63 : n + m ≤ 1099511627776) (hbytes : (n + m) * bytes ≤ 140737488355328) (ty : TypeId) :
    ∃ v' w', (Builtin.append_ #[t, t] ty #[v, .slice (some ⟨g, 0, none⟩) m c]).run P w = .ok v' w' ∧ ownsOff w' B e size v' (n + m) (xs ++ news.toList) ∧ w.grownBy w' v.ownBlock ∧ Below B w w' := by
  have hnews : ∀ j u, news.toList[j]? = some u → w.cell? ((⟨g, 0, none⟩ : Addr).add j) = some u := by
    intro j u hu
    have := hb.cell j
    have hadd : (⟨g, 0, none⟩ : Addr).add j = ⟨g, j, none⟩ := by unfold Addr.add; split <;> simp_all
    rw [hadd, this]; simpa using hu
  obtain ⟨hxl, gq, oq, cap, cur, rfl, hbq, hgq, hnc, hcm, hcs, htk⟩ := hown
  by_cases hroom : n + m ≤ cap
  · subst hsize
    have hfit : oq + n * i.size + news.toList.length ≤ cur.size := by
      rw [Array.length_toList, hl]
      have := Nat.mul_le_mul_right i.size hroom
      rw [Nat.add_mul] at this
      omega
    have hf := run_firstCells_some (P := P) w i.size m ⟨g, 0, none⟩ m c news.toList (by rw [Array.length_toList]; exact hl) hnews
    have hst := run_storeCells_at P gq (oq + n * i.size) e news.toList 0 cur w hgq (by simpa using hfit) h1
    have hadd : (⟨gq, oq, none⟩ : Addr).add (n * i.size) = ⟨gq, oq + n * i.size, none⟩ := by unfold Addr.add; split <;> simp_all
    simp only [Nat.add_zero] at hst
    refine ⟨.slice (some ⟨gq, oq, none⟩) (n + m) cap, w.setRow gq (cur.toList.take (oq + n * i.size) ++ news.toList ++ cur.toList.drop (oq + n * i.size + news.toList.length)).toArray, ?_, ?_, ?_, ?_⟩
    · simp [Builtin.append_, run_underlying ht, sizeOf, typeInfo, hi, Builtin.lenOf, hroom, hf, hadd, hst]
    · refine ⟨by rw [List.length_append, hxl, Array.length_toList, hl, Nat.add_mul], gq, oq, cap, _, rfl, hbq, setRow_heap w gq cur _ e _ hgq, hroom, hcm, ?_, ?_⟩
      · simp only [List.size_toArray, List.length_append, List.length_take, List.length_drop, Array.length_toList] at *
        omega
      · have hlen : (cur.toList.take (oq + n * i.size)).length = oq + n * i.size := by
          rw [List.length_take, Array.length_toList]
          simp only [Array.length_toList] at hfit
          omega
        have e1 : (cur.toList.take (oq + n * i.size)).drop oq = xs := by
          rw [List.drop_take, Nat.add_sub_cancel_left]; exact htk
        rw [List.append_assoc, List.drop_append_of_le_length (by rw [hlen]; omega), e1, ← List.append_assoc]
        rw [show (n + m) * i.size = (xs ++ news.toList).length from by rw [List.length_append, hxl, Array.length_toList, hl, Nat.add_mul]]
        exact List.take_left
    · exact ⟨rfl, rfl, rfl, by simp, fun k _ hk => setRow_other w gq k _ (fun e => hk (by simp [Value.ownBlock, e]))⟩
    · exact ⟨rfl, rfl, rfl, by simp, fun k hk => setRow_other w gq k _ (by omega)⟩
  · have holds : ∀ j u, xs[j]? = some u → w.cell? ((⟨gq, oq, none⟩ : Addr).add j) = some u := by
      intro j u hu
      have hadd : (⟨gq, oq, none⟩ : Addr).add j = ⟨gq, oq + j, none⟩ := by unfold Addr.add; split <;> simp_all
      rw [hadd, cell_of_row w gq (oq + j) cur e (0, 0) hgq]
      rw [← htk, List.getElem?_take] at hu
      split at hu
      · rw [List.getElem?_drop] at hu; simpa using hu
      · cases hu
    obtain ⟨v', w', hr, ho, hgr⟩ := run_append_arg_grows (P := P) w t ty e i z size bytes ht hi hz hsize hby hzs hsz ⟨gq, oq, none⟩ n cap xs hxl holds ⟨g, 0, none⟩ m c news.toList (by rw [Array.length_toList]; exact hl) hnews (by omega) (by unfold maxLen; omega) hbytes
    have ho2 := ownsOff.of_own ho (by omega)
    refine ⟨v', w', hr, ?_, ⟨hgr.os, hgr.tape, hgr.output, hgr.size, fun k hk _ => hgr.block k hk (by simp)⟩, (Below.refl _ _).grown hgr hB (fun k hk => by cases hk)⟩
    obtain ⟨q1, q2, q3, q4, q5, q6, q7, q8⟩ := ho2
    exact ⟨q1, q2, q3, q4, q5, q6, by omega, q8⟩

end Go.Proofs.YtljeecocbcffcaaDoor

/- A region that draws its order, whose operations but the last few (in one forced order) only read: the head by the cheap quiet step, then the tail. -/
namespace Go.Proofs.YtljeecocbcffcaaDoor
open Go.RowKit
set_option linter.unusedVariables false
set_option linter.unusedSimpArgs false

theorem still_of_quiet {P : Program} {o : Oper} {a : Act} {w : World} {K : Act → Prop} (h : o.quiet P a (fun w' => w' = w) K) : o.still P a w K := by
  obtain ⟨v, h1, h2⟩ := h
  have h3 := h1 w rfl
  unfold Oper.quietAt at h3
  unfold Oper.still
  generalize (execOp a.eval o).run P w = r at *
  cases r with
  | ok n w' =>
    cases n <;> simp only [Oper.quietUpon] at h3 <;> simp only [Oper.stillUpon]
    case value u => obtain ⟨e1, e2⟩ := h3; subst e2; exact ⟨e1, h2⟩
    case skip => obtain ⟨e1, e2⟩ := h3; subst e2; exact ⟨e1, h2⟩
    case enter f args =>
      obtain ⟨e1, hc⟩ := h3
      subst e1
      exact ⟨rfl, v, hc, h2⟩
  | halt x w' => simp only [Oper.quietUpon] at h3
theorem wpStill_of_quiet {P : Program} {ops : Array Oper} {w : World} {Q : Act → Prop} : ∀ (l : List Oper) (a : Act), wpQuiet P ops (fun w' => w' = w) Q l a → wpStill P ops w Q l a
  | [], _, h => h
  | o :: l, a, h => by
    simp only [wpQuiet, wpStill] at h ⊢
    split
    · rename_i hw
      rw [if_pos hw] at h
      refine still_of_quiet ?_
      obtain ⟨v, h1, h2⟩ := h
      exact ⟨v, h1, wpStill_of_quiet l _ h2⟩
    · rename_i hw
      rw [if_neg hw] at h
      exact wpStill_of_quiet l _ h
theorem wp_region_quiet_tail {P : Program} {id : Nat} {Q : Exit → Act → World → Prop} {a : Act} {w : World} {l : List Oper} (n : Nat) (hm : P.follows .mixedOrders = true) (hB : Region.lexTailB .any l.toArray n = true)
    (h : wpQuiet P l.toArray (fun w' => w' = w.drew) (fun a' => wpList P l.toArray Q (l.drop n) a' w.drew) (l.take n) a) : (Code.region id l.toArray true).wp P Q a w :=
  wp_region_still_tail n hm hB (wpStill_of_quiet _ _ h)
end Go.Proofs.YtljeecocbcffcaaDoor

/- The integer functions of layer 1 and of its reference, walked. -/
namespace Go.Proofs.YtljeecocbcffcaaDoor
open Go.RowKit
set_option linter.unusedVariables false
set_option linter.unusedSimpArgs false

/-- The call returned v and touched nothing. -/
def RetQ (v : Value) (w : World) (e : Ending) (w' : World) : Prop := e = .returned v ∧ w = w'
def is32 (a : Int) : Prop := -2147483648 ≤ a ∧ a ≤ 2147483647
def u32 (a : Int) : Int := a % 4294967296
def rv (r : Int) (b : Bool) : Value := .tuple #[.int .i32 r, .bool b]
theorem rv_eq {r r' : Int} {b b' : Bool} (h1 : r = r') (h2 : b = b') : Ending.returned (.tuple #[.int .i32 r, .bool b]) = .returned (rv r' b') := by subst h1 h2; rfl
theorem ri_eq {k : IntKind} {r r' : Int} (h1 : r = r') : Ending.returned (.int k r) = .returned (.int k r') := by subst h1; rfl
theorem rb_eq {r r' : Bool} (h1 : r = r') : Ending.returned (.bool r) = .returned (.bool r') := by subst h1; rfl

def addF (a b : Int) : Value := rv (wrap32 (a + b)) (wrap32 (a + b) != a + b)
def subF (a b : Int) : Value := rv (wrap32 (a - b)) (wrap32 (a - b) != a - b)
def mulF (a b : Int) : Value := rv (wrap32 (a * b)) (wrap32 (a * b) != a * b)
theorem mul_bound {a b : Int} (ha : is32 a) (hb : is32 b) : -4611686018427387904 ≤ a * b ∧ a * b ≤ 4611686018427387904 := by
  obtain ⟨a0, a1⟩ := ha
  obtain ⟨b0, b1⟩ := hb
  have h := Int.natAbs_mul a b
  have h1 : a.natAbs ≤ 2147483648 := by omega
  have h2 : b.natAbs ≤ 2147483648 := by omega
  have h3 := Nat.mul_le_mul h1 h2
  omega
def divF (a b : Int) : Value := if b = 0 ∨ (a = -2147483648 ∧ b = -1) then rv 0 true else rv (a.tdiv b) false
def remF (a b : Int) : Value := if b = 0 then rv 0 true else rv (a.tmod b) false
def xwordF (a b : Int) : Int := if u32 a < u32 b then a else wrap32 (a - 2 * b)
def cwordF (a b : Int) : Value := rv a (decide (b ≤ a) || decide (a < wrap32 (-b)))
end Go.Proofs.YtljeecocbcffcaaDoor

/- Shifts, and the integer functions of the reference, walked: each has the answer of the program's function. -/
namespace Go.Proofs.YtljeecocbcffcaaDoor
open Go.RowKit
set_option linter.unusedVariables false
set_option linter.unusedSimpArgs false

def sh (n : Int) : Nat := min (u32 n).toNat 32
def shlF (a n : Int) : Int := wrap32 (a * 2 ^ sh n)
def shrF (a n : Int) : Int := wrap32 (u32 a / 2 ^ sh n)
theorem wrap32_mod (t m : Int) : wrap32 (t + 4294967296 * m) = wrap32 t := by unfold wrap32; omega
theorem wrap32_u64 (t : Int) : wrap32 (IntKind.u64.wrap t) = wrap32 t := by
  have e : IntKind.u64.wrap t = t % 18446744073709551616 := by simp [IntKind.wrap, IntKind.signed, IntKind.bits]
  rw [e]; unfold wrap32; omega
theorem u32_mul (a p : Int) : wrap32 (u32 a * p) = wrap32 (a * p) := by
  have e : a = u32 a + 4294967296 * (a / 4294967296) := by unfold u32; omega
  have e2 : a * p = u32 a * p + 4294967296 * ((a / 4294967296) * p) := by
    conv => lhs; rw [e]
    rw [Int.add_mul, Int.mul_assoc]
  rw [e2, wrap32_mod]
theorem u32_bounds (a : Int) : 0 ≤ u32 a ∧ u32 a < 4294967296 := by unfold u32; omega
theorem u64w_bounds (t : Int) : 0 ≤ IntKind.u64.wrap t ∧ IntKind.u64.wrap t ≤ 18446744073709551615 := by
  have e2 : IntKind.u64.wrap t = t % 18446744073709551616 := by simp [IntKind.wrap, IntKind.signed, IntKind.bits]
  rw [e2]; omega
theorem tmod_pow (a : Int) : a.tmod 4294967296 = if 0 ≤ a then a % 4294967296 else -((-a) % 4294967296) := by
  split
  · rename_i h; exact Int.tmod_eq_emod_of_nonneg h
  · rename_i h
    have : a = -(-a) := by omega
    conv => lhs; rw [this]
    rw [Int.neg_tmod, Int.tmod_eq_emod_of_nonneg (by omega)]
def fits (t : Int) : Bool := decide (-2147483648 ≤ t) && decide (t < 2147483648)
theorem fits_wrap (t : Int) : (!fits t) = (wrap32 t != t) := by
  unfold fits
  rw [Bool.eq_iff_iff]
  simp only [Bool.not_eq_true', Bool.and_eq_false_iff, decide_eq_false_iff_not, bne_iff_ne, ne_eq]
  unfold wrap32; omega
end Go.Proofs.YtljeecocbcffcaaDoor

/- The reference's arithmetic, walked: each function has the answer of the program's function. -/
namespace Go.Proofs.YtljeecocbcffcaaDoor
open Go.RowKit
set_option linter.unusedVariables false
set_option linter.unusedSimpArgs false

theorem wrap32_is (t : Int) : is32 (wrap32 t) := by unfold is32 wrap32; omega
theorem tdiv_abs {a b : Int} : a.tdiv b = if (a < 0) = (b < 0) then ((a.natAbs / b.natAbs : Nat) : Int) else -((a.natAbs / b.natAbs : Nat) : Int) := by
  rcases Int.natAbs_eq a with h | h <;> rcases Int.natAbs_eq b with h' | h'
  · have h1 : ¬ a < 0 := by omega
    have h2 : ¬ b < 0 := by omega
    rw [if_pos (by simp [h1, h2])]
    conv => lhs; rw [h, h']
    rfl
  · by_cases hb : b = 0
    · subst hb; simp
    · have h1 : ¬ a < 0 := by omega
      have h2 : b < 0 := by omega
      rw [if_neg (by simp [h1, h2])]
      conv => lhs; rw [h, h']
      rw [Int.tdiv_neg]; rfl
  · by_cases ha : a = 0
    · subst ha; simp
    · have h1 : a < 0 := by omega
      have h2 : ¬ b < 0 := by omega
      rw [if_neg (by simp [h1, h2])]
      conv => lhs; rw [h, h']
      rw [Int.neg_tdiv]; rfl
  · by_cases ha : a = 0
    · subst ha; simp
    · by_cases hb : b = 0
      · subst hb; simp
      · have h1 : a < 0 := by omega
        have h2 : b < 0 := by omega
        rw [if_pos (by simp [h1, h2])]
        conv => lhs; rw [h, h']
        rw [Int.tdiv_neg, Int.neg_tdiv, Int.neg_neg]; rfl
theorem tmod_abs {a b : Int} : a.tmod b = if a < 0 then -((a.natAbs % b.natAbs : Nat) : Int) else ((a.natAbs % b.natAbs : Nat) : Int) := by
  have hb : a.tmod b = a.tmod (b.natAbs : Int) := by
    rcases Int.natAbs_eq b with h' | h'
    · conv => lhs; rw [h']
    · conv => lhs; rw [h', Int.tmod_neg]
  rw [hb]
  rcases Int.natAbs_eq a with h | h
  · have h1 : ¬ a < 0 := by omega
    rw [if_neg h1]
    conv => lhs; rw [h]
    rfl
  · by_cases ha : a = 0
    · subst ha; simp
    · rw [if_pos (by omega)]
      conv => lhs; rw [h]
      rw [Int.neg_tmod]; rfl
end Go.Proofs.YtljeecocbcffcaaDoor

/- The reference's division and shifts, walked. -/
namespace Go.Proofs.YtljeecocbcffcaaDoor
open Go.RowKit
set_option linter.unusedVariables false
set_option linter.unusedSimpArgs false

/-- The quotient by absolute values. -/
def quoA (a b : Int) : Int := if (a < 0) = (b < 0) then ((a.natAbs / b.natAbs : Nat) : Int) else -((a.natAbs / b.natAbs : Nat) : Int)

theorem quoA_bounds (a b : Int) (ha : is32 a) : a.natAbs / b.natAbs ≤ 2147483648 ∧ -2147483648 ≤ quoA a b ∧ quoA a b ≤ 2147483648 := by
  obtain ⟨a0, a1⟩ := ha
  have hle := Nat.div_le_self a.natAbs b.natAbs
  have : a.natAbs / b.natAbs ≤ 2147483648 := by omega
  unfold quoA
  generalize a.natAbs / b.natAbs = q at this
  refine ⟨this, ?_, ?_⟩ <;> split <;> omega

theorem divF_quoA (a b : Int) (ha : is32 a) (hb : is32 b) (h0 : ¬ b = 0) :
    divF a b = if fits (quoA a b) = true then rv (quoA a b) false else rv 0 true := by
  have ht : a.tdiv b = quoA a b := by rw [tdiv_abs]; unfold quoA; split <;> simp_all
  obtain ⟨-, l, u⟩ := quoA_bounds a b ha
  by_cases h1 : a = -2147483648 ∧ b = -1
  · rw [divF, if_pos (.inr h1)]
    obtain ⟨rfl, rfl⟩ := h1
    rfl
  · rw [divF, if_neg (fun h => h.elim h0 h1), ht]
    have : ¬ quoA a b = 2147483648 := fun h => by
      obtain ⟨a0, a1⟩ := ha
      obtain ⟨b0, b1⟩ := hb
      unfold quoA at h
      split at h
      · rename_i hs
        have hq : a.natAbs / b.natAbs = 2147483648 := by
          generalize a.natAbs / b.natAbs = q at h
          omega
        have hle := Nat.div_le_self a.natAbs b.natAbs
        have hn : b.natAbs = 1 := by
          rcases Nat.lt_or_ge 1 b.natAbs with h3 | h3
          · have := Nat.div_lt_self (n := a.natAbs) (k := b.natAbs) (by omega) h3; omega
          · omega
        have h3 : ¬ (b = 1) := fun h => by
          subst h
          have h4 : ¬ a < 0 := by simpa using hs
          omega
        omega
      · generalize a.natAbs / b.natAbs = q at h
        omega
    rw [if_pos (by simp [fits]; omega)]

/-- One more place to the left. -/
theorem shl_step (a : Int) (k : Nat) : wrap32 (2 * wrap32 (a * 2 ^ k)) = wrap32 (a * 2 ^ (k + 1)) := by
  rw [Int.pow_succ, ← Int.mul_assoc]
  generalize a * 2 ^ k = x
  unfold wrap32; omega
theorem shr_step (z : Int) (k : Nat) (h : 0 ≤ z) : z / 2 ^ k / 2 = z / 2 ^ (k + 1) := by
  rw [Int.pow_succ, Int.ediv_ediv_of_nonneg (Int.pow_nonneg (by decide))]
theorem sh_lt {n : Int} {k : Nat} (h1 : (k : Int) < u32 n) (h2 : k < 32) : k < sh n := by unfold sh; omega
theorem sh_ge {n : Int} {k : Nat} (hk : k ≤ sh n) (h1 : ¬ ((k : Int) < u32 n ∧ k < 32)) : k = sh n := by unfold sh at *; omega

end Go.Proofs.YtljeecocbcffcaaDoor

/- The numbers of this program's functions, types and variables that the library's contracts ask for. -/
namespace Go.Proofs
open Go.Shelf
def Tryd.laysM171_ren : Go.Shelf.Ren := ⟨fun | 171 => 72 | 243 => 88 | 246 => 102 | 283 => 114 | 284 => 115 | 285 => 116 | 286 => 117 | 129 => 122 | 317 => 121 | 318 => 123 | 319 => 124 | 320 => 125 | 337 => 128 | 338 => 129 | n => n, fun | 3 => 3 | 9 => 9 | 2 => 2 | 4 => 4 | 171 => 165 | 0 => 0 | 53 => 82 | 37 => 22 | 5 => 5 | 173 => 168 | 212 => 181 | 51 => 77 | 20 => 20 | 213 => 182 | 46 => 80 | 232 => 199 | 233 => 200 | n => n, fun | 17 => 6 | 18 => 7 | 19 => 8 | n => n⟩
theorem Tryd.laysM171 : Go.Proofs.LaysM.n171 Tryd.prog Tryd.laysM171_ren := {
  mixed := by kernel_rfl
  f129 := Tryd.func122.trans (congrArg some (by kernel_rfl))
  f171 := Tryd.func72.trans (congrArg some (by kernel_rfl))
  f243 := Tryd.func88.trans (congrArg some (by kernel_rfl))
  f246 := Tryd.func102.trans (congrArg some (by kernel_rfl))
  f283 := Tryd.func114.trans (congrArg some (by kernel_rfl))
  f284 := Tryd.func115.trans (congrArg some (by kernel_rfl))
  f285 := Tryd.func116.trans (congrArg some (by kernel_rfl))
  f286 := Tryd.func117.trans (congrArg some (by kernel_rfl))
  f317 := Tryd.func121.trans (congrArg some (by kernel_rfl))
  f318 := Tryd.func123.trans (congrArg some (by kernel_rfl))
  f319 := Tryd.func124.trans (congrArg some (by kernel_rfl))
  f320 := Tryd.func125.trans (congrArg some (by kernel_rfl))
  f337 := Tryd.func128.trans (congrArg some (by kernel_rfl))
  f338 := Tryd.func129.trans (congrArg some (by kernel_rfl))
  t0 := Tryd.underlying0
  a0 := Tryd.isAgg0
  z0 := Tryd.sizeOf0
  v0 := Tryd.zeroValue0
  t2 := Tryd.underlying2
  a2 := Tryd.isAgg2
  z2 := Tryd.sizeOf2
  v2 := Tryd.zeroValue2
  t3 := Tryd.underlying3
  a3 := Tryd.isAgg3
  z3 := Tryd.sizeOf3
  v3 := Tryd.zeroValue3
  t4 := Tryd.underlying4
  a4 := Tryd.isAgg4
  z4 := Tryd.sizeOf4
  v4 := Tryd.zeroValue4
  t5 := Tryd.underlying5
  a5 := Tryd.isAgg5
  z5 := Tryd.sizeOf5
  v5 := Tryd.zeroValue5
  t9 := Tryd.underlying9
  a9 := Tryd.isAgg9
  z9 := Tryd.sizeOf9
  v9 := Tryd.zeroValue9
  t20 := Tryd.underlying20
  a20 := Tryd.isAgg20
  z20 := Tryd.sizeOf20
  v20 := Tryd.zeroValue20
  t37 := Tryd.underlying22
  a37 := Tryd.isAgg22
  z37 := Tryd.sizeOf22
  v37 := Tryd.zeroValue22
  t46 := Tryd.underlying80
  a46 := Tryd.isAgg80
  z46 := Tryd.sizeOf80
  v46 := Tryd.zeroValue80
  t51 := Tryd.underlying77
  a51 := Tryd.isAgg77
  z51 := Tryd.sizeOf77
  v51 := Tryd.zeroValue77
  t53 := Tryd.underlying82
  a53 := Tryd.isAgg82
  z53 := Tryd.sizeOf82
  v53 := Tryd.zeroValue82
  t171 := Tryd.underlying165
  a171 := Tryd.isAgg165
  z171 := Tryd.sizeOf165
  v171 := Tryd.zeroValue165
  t173 := Tryd.underlying168
  a173 := Tryd.isAgg168
  z173 := Tryd.sizeOf168
  v173 := Tryd.zeroValue168
  t212 := Tryd.underlying181
  a212 := Tryd.isAgg181
  z212 := Tryd.sizeOf181
  v212 := Tryd.zeroValue181
  t213 := Tryd.underlying182
  a213 := Tryd.isAgg182
  z213 := Tryd.sizeOf182
  t232 := Tryd.underlying199
  a232 := Tryd.isAgg199
  z232 := Tryd.sizeOf199
  v232 := Tryd.zeroValue199
  t233 := Tryd.underlying200
  a233 := Tryd.isAgg200
  z233 := Tryd.sizeOf200
  v233 := Tryd.zeroValue200
  g17 := by kernel_rfl
  g18 := by kernel_rfl
  g19 := by kernel_rfl
  i0 := by kernel_rfl
  i2 := by kernel_rfl
  i3 := by kernel_rfl
  i4 := by kernel_rfl
  i5 := by kernel_rfl
  i9 := by kernel_rfl
  i20 := by kernel_rfl
  i37 := by kernel_rfl
  i46 := by kernel_rfl
  i51 := by kernel_rfl
  i53 := by kernel_rfl
  i171 := by kernel_rfl
  i173 := by kernel_rfl
  i212 := by kernel_rfl
  i232 := by kernel_rfl
  i233 := by kernel_rfl
  m17 := by kernel_rfl
  m18 := by kernel_rfl
  m19 := by kernel_rfl }
def Tryd.laysC174_ren : Go.Shelf.Ren := ⟨fun | 174 => 68 | 247 => 85 | 245 => 86 | 287 => 97 | 279 => 98 | 280 => 99 | 281 => 100 | 282 => 101 | 321 => 110 | 322 => 111 | 316 => 112 | 171 => 72 | 205 => 113 | 243 => 88 | 246 => 102 | 283 => 114 | 284 => 115 | 285 => 116 | 286 => 117 | 129 => 122 | 317 => 121 | 318 => 123 | 319 => 124 | 320 => 125 | 337 => 128 | 338 => 129 | n => n, fun | 9 => 9 | 3 => 3 | 2 => 2 | 75 => 106 | 85 => 115 | 4 => 4 | 167 => 149 | 5 => 5 | 53 => 82 | 175 => 150 | 46 => 80 | 168 => 152 | 37 => 22 | 0 => 0 | 210 => 163 | 21 => 21 | 127 => 126 | 145 => 179 | 143 => 177 | 171 => 165 | 173 => 168 | 212 => 181 | 51 => 77 | 20 => 20 | 213 => 182 | 232 => 199 | 233 => 200 | 80 => 109 | n => n, fun | 15 => 3 | 16 => 4 | 17 => 6 | 18 => 7 | 19 => 8 | n => n⟩
theorem Tryd.laysC174 : Go.Proofs.LaysC.n174 Tryd.prog Tryd.laysC174_ren := {
  mixed := by kernel_rfl
  f129 := Tryd.func122.trans (congrArg some (by kernel_rfl))
  f171 := Tryd.func72.trans (congrArg some (by kernel_rfl))
  f174 := Tryd.func68.trans (congrArg some (by kernel_rfl))
  f205 := Tryd.func113.trans (congrArg some (by kernel_rfl))
  f243 := Tryd.func88.trans (congrArg some (by kernel_rfl))
  f245 := Tryd.func86.trans (congrArg some (by kernel_rfl))
  f246 := Tryd.func102.trans (congrArg some (by kernel_rfl))
  f247 := Tryd.func85.trans (congrArg some (by kernel_rfl))
  f279 := Tryd.func98.trans (congrArg some (by kernel_rfl))
  f280 := Tryd.func99.trans (congrArg some (by kernel_rfl))
  f281 := Tryd.func100.trans (congrArg some (by kernel_rfl))
  f282 := Tryd.func101.trans (congrArg some (by kernel_rfl))
  f283 := Tryd.func114.trans (congrArg some (by kernel_rfl))
  f284 := Tryd.func115.trans (congrArg some (by kernel_rfl))
  f285 := Tryd.func116.trans (congrArg some (by kernel_rfl))
  f286 := Tryd.func117.trans (congrArg some (by kernel_rfl))
  f287 := Tryd.func97.trans (congrArg some (by kernel_rfl))
  f316 := Tryd.func112.trans (congrArg some (by kernel_rfl))
  f317 := Tryd.func121.trans (congrArg some (by kernel_rfl))
  f318 := Tryd.func123.trans (congrArg some (by kernel_rfl))
  f319 := Tryd.func124.trans (congrArg some (by kernel_rfl))
  f320 := Tryd.func125.trans (congrArg some (by kernel_rfl))
  f321 := Tryd.func110.trans (congrArg some (by kernel_rfl))
  f322 := Tryd.func111.trans (congrArg some (by kernel_rfl))
  f337 := Tryd.func128.trans (congrArg some (by kernel_rfl))
  f338 := Tryd.func129.trans (congrArg some (by kernel_rfl))
  t0 := Tryd.underlying0
  a0 := Tryd.isAgg0
  z0 := Tryd.sizeOf0
  v0 := Tryd.zeroValue0
  t2 := Tryd.underlying2
  a2 := Tryd.isAgg2
  z2 := Tryd.sizeOf2
  v2 := Tryd.zeroValue2
  t3 := Tryd.underlying3
  a3 := Tryd.isAgg3
  z3 := Tryd.sizeOf3
  v3 := Tryd.zeroValue3
  t4 := Tryd.underlying4
  a4 := Tryd.isAgg4
  z4 := Tryd.sizeOf4
  v4 := Tryd.zeroValue4
  t5 := Tryd.underlying5
  a5 := Tryd.isAgg5
  z5 := Tryd.sizeOf5
  v5 := Tryd.zeroValue5
  t9 := Tryd.underlying9
  a9 := Tryd.isAgg9
  z9 := Tryd.sizeOf9
  v9 := Tryd.zeroValue9
  t20 := Tryd.underlying20
  a20 := Tryd.isAgg20
  z20 := Tryd.sizeOf20
  v20 := Tryd.zeroValue20
  t21 := Tryd.underlying21
  a21 := Tryd.isAgg21
  z21 := Tryd.sizeOf21
  v21 := Tryd.zeroValue21
  t37 := Tryd.underlying22
  a37 := Tryd.isAgg22
  z37 := Tryd.sizeOf22
  v37 := Tryd.zeroValue22
  t46 := Tryd.underlying80
  a46 := Tryd.isAgg80
  z46 := Tryd.sizeOf80
  v46 := Tryd.zeroValue80
  t51 := Tryd.underlying77
  a51 := Tryd.isAgg77
  z51 := Tryd.sizeOf77
  v51 := Tryd.zeroValue77
  t53 := Tryd.underlying82
  a53 := Tryd.isAgg82
  z53 := Tryd.sizeOf82
  v53 := Tryd.zeroValue82
  t75 := Tryd.underlying106
  a75 := Tryd.isAgg106
  z75 := Tryd.sizeOf106
  v75 := Tryd.zeroValue106
  t85 := Tryd.underlying115
  a85 := Tryd.isAgg115
  z85 := Tryd.sizeOf115
  v85 := Tryd.zeroValue115
  t127 := Tryd.underlying126
  a127 := Tryd.isAgg126
  z127 := Tryd.sizeOf126
  v127 := Tryd.zeroValue126
  t143 := Tryd.underlying177
  a143 := Tryd.isAgg177
  z143 := Tryd.sizeOf177
  v143 := Tryd.zeroValue177
  t145 := Tryd.underlying179
  a145 := Tryd.isAgg179
  z145 := Tryd.sizeOf179
  v145 := Tryd.zeroValue179
  t167 := Tryd.underlying149
  a167 := Tryd.isAgg149
  z167 := Tryd.sizeOf149
  v167 := Tryd.zeroValue149
  t168 := Tryd.underlying152
  a168 := Tryd.isAgg152
  z168 := Tryd.sizeOf152
  v168 := Tryd.zeroValue152
  t171 := Tryd.underlying165
  a171 := Tryd.isAgg165
  z171 := Tryd.sizeOf165
  v171 := Tryd.zeroValue165
  t173 := Tryd.underlying168
  a173 := Tryd.isAgg168
  z173 := Tryd.sizeOf168
  v173 := Tryd.zeroValue168
  t175 := Tryd.underlying150
  a175 := Tryd.isAgg150
  z175 := Tryd.sizeOf150
  v175 := Tryd.zeroValue150
  t210 := Tryd.underlying163
  a210 := Tryd.isAgg163
  z210 := Tryd.sizeOf163
  v210 := Tryd.zeroValue163
  t212 := Tryd.underlying181
  a212 := Tryd.isAgg181
  z212 := Tryd.sizeOf181
  v212 := Tryd.zeroValue181
  t213 := Tryd.underlying182
  a213 := Tryd.isAgg182
  z213 := Tryd.sizeOf182
  t232 := Tryd.underlying199
  a232 := Tryd.isAgg199
  z232 := Tryd.sizeOf199
  v232 := Tryd.zeroValue199
  t233 := Tryd.underlying200
  a233 := Tryd.isAgg200
  z233 := Tryd.sizeOf200
  v233 := Tryd.zeroValue200
  g15 := by kernel_rfl
  g16 := by kernel_rfl
  g17 := by kernel_rfl
  g18 := by kernel_rfl
  g19 := by kernel_rfl
  t80 := Tryd.underlying109
  a80 := Tryd.isAgg109
  z80 := Tryd.sizeOf109
  v80 := Tryd.zeroValue109
  i0 := by kernel_rfl
  i2 := by kernel_rfl
  i3 := by kernel_rfl
  i4 := by kernel_rfl
  i5 := by kernel_rfl
  i9 := by kernel_rfl
  i20 := by kernel_rfl
  i21 := by kernel_rfl
  i37 := by kernel_rfl
  i46 := by kernel_rfl
  i51 := by kernel_rfl
  i53 := by kernel_rfl
  i75 := by kernel_rfl
  i80 := by kernel_rfl
  i85 := by kernel_rfl
  i127 := by kernel_rfl
  i143 := by kernel_rfl
  i145 := by kernel_rfl
  i167 := by kernel_rfl
  i168 := by kernel_rfl
  i171 := by kernel_rfl
  i173 := by kernel_rfl
  i175 := by kernel_rfl
  i210 := by kernel_rfl
  i212 := by kernel_rfl
  i232 := by kernel_rfl
  i233 := by kernel_rfl
  m15 := by kernel_rfl
  m16 := by kernel_rfl
  m17 := by kernel_rfl
  m18 := by kernel_rfl
  m19 := by kernel_rfl
  c0 := by kernel_rfl
  c2 := by kernel_rfl
  c3 := by kernel_rfl
  c4 := by kernel_rfl
  c5 := by kernel_rfl
  c9 := by kernel_rfl
  c20 := by kernel_rfl
  c21 := by kernel_rfl
  c37 := by kernel_rfl
  c46 := by kernel_rfl
  c51 := by kernel_rfl
  c53 := by kernel_rfl
  c75 := by kernel_rfl
  c80 := by kernel_rfl
  c85 := by kernel_rfl
  c127 := by kernel_rfl
  c143 := by kernel_rfl
  c145 := by kernel_rfl
  c167 := by kernel_rfl
  c168 := by kernel_rfl
  c171 := by kernel_rfl
  c173 := by kernel_rfl
  c175 := by kernel_rfl
  c210 := by kernel_rfl
  c212 := by kernel_rfl
  c213 := by kernel_rfl
  c232 := by kernel_rfl
  c233 := by kernel_rfl }
def Tryd.lays137_ren : Go.Shelf.Ren := ⟨fun | 137 => 109 | 217 => 103 | 266 => 118 | n => n, fun | 9 => 9 | 5 => 5 | 3 => 3 | n => n, fun | n => n⟩
theorem Tryd.lays137 : Go.Proofs.Lays.n137 Tryd.prog Tryd.lays137_ren := {
  mixed := by kernel_rfl
  f137 := Tryd.func109.trans (congrArg some (by kernel_rfl))
  f217 := Tryd.func103.trans (congrArg some (by kernel_rfl))
  f266 := Tryd.func118.trans (congrArg some (by kernel_rfl))
  t3 := Tryd.underlying3
  a3 := Tryd.isAgg3
  z3 := Tryd.sizeOf3
  v3 := Tryd.zeroValue3
  t5 := Tryd.underlying5
  a5 := Tryd.isAgg5
  z5 := Tryd.sizeOf5
  v5 := Tryd.zeroValue5
  t9 := Tryd.underlying9
  a9 := Tryd.isAgg9
  z9 := Tryd.sizeOf9
  v9 := Tryd.zeroValue9 }
def Tryd.lays217_ren : Go.Shelf.Ren := ⟨fun | 217 => 103 | 266 => 118 | n => n, fun | 9 => 9 | 5 => 5 | 3 => 3 | n => n, fun | n => n⟩
theorem Tryd.lays217 : Go.Proofs.Lays.n217 Tryd.prog Tryd.lays217_ren := {
  mixed := by kernel_rfl
  f217 := Tryd.func103.trans (congrArg some (by kernel_rfl))
  f266 := Tryd.func118.trans (congrArg some (by kernel_rfl))
  t3 := Tryd.underlying3
  a3 := Tryd.isAgg3
  z3 := Tryd.sizeOf3
  v3 := Tryd.zeroValue3
  t5 := Tryd.underlying5
  a5 := Tryd.isAgg5
  z5 := Tryd.sizeOf5
  v5 := Tryd.zeroValue5
  t9 := Tryd.underlying9
  a9 := Tryd.isAgg9
  z9 := Tryd.sizeOf9
  v9 := Tryd.zeroValue9 }
def Tryd.lays157_ren : Go.Shelf.Ren := ⟨fun | 157 => 95 | 229 => 107 | 199 => 108 | 261 => 120 | 311 => 126 | 312 => 127 | n => n, fun | 9 => 9 | 31 => 146 | 3 => 3 | 5 => 5 | 4 => 4 | 119 => 157 | 0 => 0 | 40 => 159 | 152 => 172 | 21 => 21 | 154 => 174 | 51 => 77 | 141 => 176 | 196 => 188 | 193 => 185 | 198 => 191 | 49 => 189 | 194 => 186 | 201 => 194 | 226 => 197 | 46 => 80 | 227 => 198 | n => n, fun | 0 => 2 | 6 => 5 | n => n⟩
theorem Tryd.lays157 : Go.Proofs.Lays.n157 Tryd.prog Tryd.lays157_ren := {
  mixed := by kernel_rfl
  f157 := Tryd.func95.trans (congrArg some (by kernel_rfl))
  f199 := Tryd.func108.trans (congrArg some (by kernel_rfl))
  f229 := Tryd.func107.trans (congrArg some (by kernel_rfl))
  f261 := Tryd.func120.trans (congrArg some (by kernel_rfl))
  f311 := Tryd.func126.trans (congrArg some (by kernel_rfl))
  f312 := Tryd.func127.trans (congrArg some (by kernel_rfl))
  t0 := Tryd.underlying0
  a0 := Tryd.isAgg0
  z0 := Tryd.sizeOf0
  v0 := Tryd.zeroValue0
  t3 := Tryd.underlying3
  a3 := Tryd.isAgg3
  z3 := Tryd.sizeOf3
  v3 := Tryd.zeroValue3
  t4 := Tryd.underlying4
  a4 := Tryd.isAgg4
  z4 := Tryd.sizeOf4
  v4 := Tryd.zeroValue4
  t5 := Tryd.underlying5
  a5 := Tryd.isAgg5
  z5 := Tryd.sizeOf5
  v5 := Tryd.zeroValue5
  t9 := Tryd.underlying9
  a9 := Tryd.isAgg9
  z9 := Tryd.sizeOf9
  v9 := Tryd.zeroValue9
  t21 := Tryd.underlying21
  a21 := Tryd.isAgg21
  z21 := Tryd.sizeOf21
  v21 := Tryd.zeroValue21
  t31 := Tryd.underlying146
  a31 := Tryd.isAgg146
  z31 := Tryd.sizeOf146
  v31 := Tryd.zeroValue146
  t40 := Tryd.underlying159
  a40 := Tryd.isAgg159
  z40 := Tryd.sizeOf159
  v40 := Tryd.zeroValue159
  t46 := Tryd.underlying80
  a46 := Tryd.isAgg80
  z46 := Tryd.sizeOf80
  v46 := Tryd.zeroValue80
  t49 := Tryd.underlying189
  a49 := Tryd.isAgg189
  z49 := Tryd.sizeOf189
  v49 := Tryd.zeroValue189
  t51 := Tryd.underlying77
  a51 := Tryd.isAgg77
  z51 := Tryd.sizeOf77
  v51 := Tryd.zeroValue77
  t119 := Tryd.underlying157
  a119 := Tryd.isAgg157
  z119 := Tryd.sizeOf157
  t141 := Tryd.underlying176
  a141 := Tryd.isAgg176
  z141 := Tryd.sizeOf176
  v141 := Tryd.zeroValue176
  t152 := Tryd.underlying172
  a152 := Tryd.isAgg172
  z152 := Tryd.sizeOf172
  v152 := Tryd.zeroValue172
  t154 := Tryd.underlying174
  a154 := Tryd.isAgg174
  z154 := Tryd.sizeOf174
  v154 := Tryd.zeroValue174
  t193 := Tryd.underlying185
  a193 := Tryd.isAgg185
  z193 := Tryd.sizeOf185
  v193 := Tryd.zeroValue185
  t194 := Tryd.underlying186
  a194 := Tryd.isAgg186
  z194 := Tryd.sizeOf186
  v194 := Tryd.zeroValue186
  t196 := Tryd.underlying188
  a196 := Tryd.isAgg188
  z196 := Tryd.sizeOf188
  v196 := Tryd.zeroValue188
  t198 := Tryd.underlying191
  a198 := Tryd.isAgg191
  z198 := Tryd.sizeOf191
  v198 := Tryd.zeroValue191
  t201 := Tryd.underlying194
  a201 := Tryd.isAgg194
  z201 := Tryd.sizeOf194
  v201 := Tryd.zeroValue194
  t226 := Tryd.underlying197
  a226 := Tryd.isAgg197
  z226 := Tryd.sizeOf197
  v226 := Tryd.zeroValue197
  t227 := Tryd.underlying198
  a227 := Tryd.isAgg198
  z227 := Tryd.sizeOf198
  v227 := Tryd.zeroValue198
  g0 := by kernel_rfl
  g6 := by kernel_rfl }
def Tryd.lays169_ren : Go.Shelf.Ren := ⟨fun | 169 => 64 | n => n, fun | 70 => 102 | 9 => 9 | 0 => 0 | 72 => 104 | 37 => 22 | 127 => 126 | 3 => 3 | 5 => 5 | n => n, fun | n => n⟩
theorem Tryd.lays169 : Go.Proofs.Lays.n169 Tryd.prog Tryd.lays169_ren := {
  mixed := by kernel_rfl
  f169 := Tryd.func64.trans (congrArg some (by kernel_rfl))
  t0 := Tryd.underlying0
  a0 := Tryd.isAgg0
  z0 := Tryd.sizeOf0
  v0 := Tryd.zeroValue0
  t3 := Tryd.underlying3
  a3 := Tryd.isAgg3
  z3 := Tryd.sizeOf3
  v3 := Tryd.zeroValue3
  t9 := Tryd.underlying9
  a9 := Tryd.isAgg9
  z9 := Tryd.sizeOf9
  v9 := Tryd.zeroValue9
  t37 := Tryd.underlying22
  a37 := Tryd.isAgg22
  z37 := Tryd.sizeOf22
  v37 := Tryd.zeroValue22
  t70 := Tryd.underlying102
  a70 := Tryd.isAgg102
  z70 := Tryd.sizeOf102
  v70 := Tryd.zeroValue102
  t72 := Tryd.underlying104
  a72 := Tryd.isAgg104
  z72 := Tryd.sizeOf104
  v72 := Tryd.zeroValue104
  t127 := Tryd.underlying126
  a127 := Tryd.isAgg126
  z127 := Tryd.sizeOf126
  v127 := Tryd.zeroValue126 }
theorem Tryd.Builder_Extra_169 : Builder.Extra Tryd.prog Tryd.lays169_ren := {
  sizeBuilder := by kernel_rfl
  liesBuilder := by kernel_rfl
  t5 := Tryd.underlying5
  a5 := Tryd.isAgg5
  z5 := Tryd.sizeOf5
  v5 := Tryd.zeroValue5
  infoByte := by kernel_rfl
  cellsByte := by kernel_rfl
  sizeByte := by kernel_rfl
  neB5 := by decide }
def Tryd.lays145_ren : Go.Shelf.Ren := ⟨fun | 145 => 66 | 220 => 83 | 219 => 93 | 217 => 103 | 225 => 104 | 224 => 105 | 267 => 106 | 266 => 118 | 314 => 119 | n => n, fun | 9 => 9 | 4 => 4 | 59 => 111 | 3 => 3 | 5 => 5 | 46 => 80 | 146 => 170 | 51 => 77 | n => n, fun | 1 => 1 | n => n⟩
theorem Tryd.lays145 : Go.Proofs.Lays.n145 Tryd.prog Tryd.lays145_ren := {
  mixed := by kernel_rfl
  f145 := Tryd.func66.trans (congrArg some (by kernel_rfl))
  f217 := Tryd.func103.trans (congrArg some (by kernel_rfl))
  f219 := Tryd.func93.trans (congrArg some (by kernel_rfl))
  f220 := Tryd.func83.trans (congrArg some (by kernel_rfl))
  f224 := Tryd.func105.trans (congrArg some (by kernel_rfl))
  f225 := Tryd.func104.trans (congrArg some (by kernel_rfl))
  f266 := Tryd.func118.trans (congrArg some (by kernel_rfl))
  f267 := Tryd.func106.trans (congrArg some (by kernel_rfl))
  f314 := Tryd.func119.trans (congrArg some (by kernel_rfl))
  t3 := Tryd.underlying3
  a3 := Tryd.isAgg3
  z3 := Tryd.sizeOf3
  v3 := Tryd.zeroValue3
  t4 := Tryd.underlying4
  a4 := Tryd.isAgg4
  z4 := Tryd.sizeOf4
  v4 := Tryd.zeroValue4
  t5 := Tryd.underlying5
  a5 := Tryd.isAgg5
  z5 := Tryd.sizeOf5
  v5 := Tryd.zeroValue5
  t9 := Tryd.underlying9
  a9 := Tryd.isAgg9
  z9 := Tryd.sizeOf9
  v9 := Tryd.zeroValue9
  t46 := Tryd.underlying80
  a46 := Tryd.isAgg80
  z46 := Tryd.sizeOf80
  v46 := Tryd.zeroValue80
  t51 := Tryd.underlying77
  a51 := Tryd.isAgg77
  z51 := Tryd.sizeOf77
  v51 := Tryd.zeroValue77
  t59 := Tryd.underlying111
  a59 := Tryd.isAgg111
  z59 := Tryd.sizeOf111
  v59 := Tryd.zeroValue111
  t146 := Tryd.underlying170
  a146 := Tryd.isAgg170
  z146 := Tryd.sizeOf170
  v146 := Tryd.zeroValue170
  g1 := by kernel_rfl }
def Tryd.laysM145_ren : Go.Shelf.Ren := ⟨fun | 145 => 66 | 220 => 83 | 219 => 93 | 217 => 103 | 225 => 104 | 224 => 105 | 267 => 106 | 266 => 118 | 314 => 119 | n => n, fun | 9 => 9 | 4 => 4 | 59 => 111 | 3 => 3 | 5 => 5 | 46 => 80 | 146 => 170 | 51 => 77 | n => n, fun | 1 => 1 | n => n⟩
theorem Tryd.laysM145 : Go.Proofs.LaysM.n145 Tryd.prog Tryd.laysM145_ren := {
  mixed := by kernel_rfl
  f145 := Tryd.func66.trans (congrArg some (by kernel_rfl))
  f217 := Tryd.func103.trans (congrArg some (by kernel_rfl))
  f219 := Tryd.func93.trans (congrArg some (by kernel_rfl))
  f220 := Tryd.func83.trans (congrArg some (by kernel_rfl))
  f224 := Tryd.func105.trans (congrArg some (by kernel_rfl))
  f225 := Tryd.func104.trans (congrArg some (by kernel_rfl))
  f266 := Tryd.func118.trans (congrArg some (by kernel_rfl))
  f267 := Tryd.func106.trans (congrArg some (by kernel_rfl))
  f314 := Tryd.func119.trans (congrArg some (by kernel_rfl))
  t3 := Tryd.underlying3
  a3 := Tryd.isAgg3
  z3 := Tryd.sizeOf3
  v3 := Tryd.zeroValue3
  t4 := Tryd.underlying4
  a4 := Tryd.isAgg4
  z4 := Tryd.sizeOf4
  v4 := Tryd.zeroValue4
  t5 := Tryd.underlying5
  a5 := Tryd.isAgg5
  z5 := Tryd.sizeOf5
  v5 := Tryd.zeroValue5
  t9 := Tryd.underlying9
  a9 := Tryd.isAgg9
  z9 := Tryd.sizeOf9
  v9 := Tryd.zeroValue9
  t46 := Tryd.underlying80
  a46 := Tryd.isAgg80
  z46 := Tryd.sizeOf80
  v46 := Tryd.zeroValue80
  t51 := Tryd.underlying77
  a51 := Tryd.isAgg77
  z51 := Tryd.sizeOf77
  v51 := Tryd.zeroValue77
  t59 := Tryd.underlying111
  a59 := Tryd.isAgg111
  z59 := Tryd.sizeOf111
  v59 := Tryd.zeroValue111
  t146 := Tryd.underlying170
  a146 := Tryd.isAgg170
  z146 := Tryd.sizeOf170
  v146 := Tryd.zeroValue170
  g1 := by kernel_rfl
  i3 := by kernel_rfl
  i4 := by kernel_rfl
  i5 := by kernel_rfl
  i9 := by kernel_rfl
  i46 := by kernel_rfl
  i51 := by kernel_rfl
  i59 := by kernel_rfl
  i146 := by kernel_rfl
  m1 := by kernel_rfl
  s1_3 := fun w h => Go.Proofs.cell_of_shapedOpen_int (zero := #[.int .i64 0]) (t := 3) h (of_decide_eq_true (by kernel_rfl)) (by kernel_rfl) rfl (by kernel_rfl) (by kernel_rfl) Tryd.underlying3 }
end Go.Proofs

/- Texts of words, walked. -/
namespace Go.Proofs.YtljeecocbcffcaaDoor
open Go.RowKit
set_option linter.unusedVariables false
set_option linter.unusedSimpArgs false


/-- A digit's sign. -/
def dig (d : Nat) : UInt8 := if d < 10 then UInt8.ofNat (48 + d) else UInt8.ofNat (55 + d)
/-- The last n digits of t in the base b. -/
def digL (b : Nat) : Nat → Nat → List UInt8
  | 0, _ => []
  | i + 1, t => dig (t / b ^ i % b) :: digL b i t
theorem digL_length (b i t : Nat) : (digL b i t).length = i := by
  induction i with
  | zero => rfl
  | succ i ih => simp [digL, ih]
def u8s (l : List UInt8) : List Value := l.map fun c => .int .u8 c.toNat


theorem u8s_set (k z : Nat) (hk : k < 8) :
    ((Value.int .u8 35 :: (List.replicate (8 - k) (Value.int .u8 0) ++ u8s (digL 16 k z))).toArray).setIfInBounds (8 - k) (.int .u8 (dig (z / 16 ^ k % 16)).toNat) =
      (Value.int .u8 35 :: (List.replicate (8 - (k + 1)) (Value.int .u8 0) ++ u8s (digL 16 (k + 1) z))).toArray := by
  have e : 8 - k = (8 - (k + 1)) + 1 := by omega
  rw [List.setIfInBounds_toArray, e, List.set_cons_succ]
  congr 2
  generalize 8 - (k + 1) = n
  have : List.replicate (n + 1) (Value.int .u8 0) = List.replicate n (Value.int .u8 0) ++ [Value.int .u8 0] := List.replicate_succ'
  rw [this, List.append_assoc, List.set_append_right _ _ (by simp)]
  simp [u8s, digL]

theorem u8s_get (k z : Nat) (hk : k < 8) : ((Value.int .u8 35 :: (List.replicate (8 - k) (Value.int .u8 0) ++ u8s (digL 16 k z))).toArray)[8 - k]? = some (.int .u8 0) := by
  have e : 8 - k = (8 - (k + 1)) + 1 := by omega
  rw [List.getElem?_toArray, e, List.getElem?_cons_succ, List.getElem?_append_left (by simp), List.getElem?_replicate, if_pos (by omega)]
theorem mask_u32 (i : Nat) (hi : i ≤ 32) (x : Int) (h0 : 0 ≤ x) (h1 : x < 4294967296) : bits .and .u32 x (2 ^ i - 1) = x % 2 ^ i :=
  bits_mask .u32 32 (by decide) (fun n a b => by rw [IntKind.wrap_u32]; omega) i hi x h0 (by omega)
theorem and15 (z k : Nat) (hz : z < 4294967296) : bits .and .u32 ((z : Int) / 2 ^ (4 * k)) 15 = ((z / 16 ^ k % 16 : Nat) : Int) := by
  have e : (z : Int) / 2 ^ (4 * k) = ((z / 16 ^ k : Nat) : Int) := by
    rw [Int.pow_mul]; simp
  have hle := Nat.div_le_self z (16 ^ k)
  rw [e]
  generalize z / 16 ^ k = x at hle ⊢
  have h := mask_u32 4 (by decide) (x : Int) (by omega) (by omega)
  simpa using h

theorem dig_at (d : Nat) (h : d < 16) : (({ data := #[48, 49, 50, 51, 52, 53, 54, 55, 56, 57, 65, 66, 67, 68, 69, 70] } : ByteArray)[d]'(by simpa [ByteArray.size] using h)) = dig d := by
  revert d; decide

/-- The library's globals that strconv reads, as laid; and so whatever is done from the block B on. -/
def Laid (B : Nat) (w : World) : Prop := ∃ tp p tq q, ∀ w', Below B w w' →
  w'.var? Tryd.prog "strconv.ErrSyntax" = some #[.iface tp p] ∧ w'.var? Tryd.prog "strconv.ErrRange" = some #[.iface tq q] ∧ Lib.TabIs Tryd.prog w' "internal/strconv.uint64pow10" .u64 Lib.pow10Tab
theorem Laid.on {B : Nat} {w w1 : World} (h : Laid B w) (hb : Below B w w1) : Laid B w1 := by
  obtain ⟨tp, p, tq, q, h⟩ := h
  exact ⟨tp, p, tq, q, fun w' h' => h w' (hb.trans h')⟩
theorem Laid.call {B : Nat} {w w1 : World} (h : Laid B w) (hb : Below w.heap.size w w1) (hB : B ≤ w.heap.size) : Laid B w1 := h.on ⟨hb.os, hb.tape, hb.output, hb.size, fun i hi => hb.block i (by omega)⟩
theorem Laid.tab {B : Nat} {w : World} (h : Laid B w) : Lib.TabIs Tryd.prog w "internal/strconv.uint64pow10" .u64 Lib.pow10Tab := by
  obtain ⟨tp, p, tq, q, h⟩ := h
  exact (h w (Below.refl _ _)).2.2
theorem below_gr (w : World) (k : Nat) (os : Array Obj) : Below w.heap.size w (Sort.grow (w.drewN k) os) :=
  ⟨rfl, rfl, rfl, by simp [Sort.grow], fun i hi => by
    show ((w.drewN k).heap ++ os)[i]? = _
    rw [Array.getElem?_append_left (by show i < w.heap.size; omega)]
    rfl⟩
theorem itoa_any (B : Nat) (v : Int) (w : World) (hv : is32 v) (hL : Laid B w) : Calls Tryd.prog 72 #[.int .i64 v] w (RetV (.string ⟨(Lib.itoa v).toArray⟩) w) := by
  refine (Any.strconv_Itoa Tryd.laysM171 v (by have := hv.1; omega) (by have := hv.2; omega) w hL.tab).mono ?_
  rintro e w' ⟨rfl, k, os, rfl⟩
  exact ⟨rfl, below_gr _ _ _⟩


end Go.Proofs.YtljeecocbcffcaaDoor

/- hexadecimal, walked. -/
namespace Go.Proofs.YtljeecocbcffcaaDoor
open Go.RowKit
set_option linter.unusedVariables false
set_option linter.unusedSimpArgs false

def isHexB (c : UInt8) : Bool := decide (48 ≤ c.toNat) && decide (c.toNat ≤ 57) || decide (65 ≤ c.toNat) && decide (c.toNat ≤ 70)
def hv (c : UInt8) : Nat := if c.toNat ≤ 57 then c.toNat - 48 else c.toNat - 55
def valL (b : Nat) (l : List UInt8) : Nat := l.foldl (fun t c => b * t + hv c) 0
theorem valL_snoc (b : Nat) (l : List UInt8) (c : UInt8) : valL b (l ++ [c]) = b * valL b l + hv c := by simp [valL]

theorem take_snoc (s : ByteArray) (k : Nat) (h : k < s.size) : s.data.toList.take (k + 1) = s.data.toList.take k ++ [s[k]] := by
  rw [List.take_succ_eq_append_getElem (by simpa using h)]; rfl

theorem all_snoc (s : ByteArray) (k : Nat) (h : k < s.size) (ha : (s.data.toList.take k).all isHexB = true) (hc : isHexB s[k] = true) : (s.data.toList.take (k + 1)).all isHexB = true := by
  rw [take_snoc s k h]; simp [ha, hc]
theorem all_not (s : ByteArray) (k : Nat) (h : k < s.size) (hc : isHexB s[k] = false) : s.data.toList.all isHexB = false := by
  rw [List.all_eq_false]
  exact ⟨s[k], by simp [ByteArray.getElem_eq_getElem_data], by simp [hc]⟩
theorem or16 (v d : Int) (d0 : 0 ≤ d) (d1 : d < 16) : bits .or .u32 (v * 16 % 4294967296) d = v * 16 % 4294967296 + d :=
  bits_join .u32 32 (by decide) (fun n a b => by rw [IntKind.wrap_u32]; omega) 4 _ d (by omega) (by omega) (by omega) d0 (by omega) (by omega)
theorem val_next (s : ByteArray) (pos v : Nat) (hp : pos < s.size) (hV : valL 16 (s.data.toList.take pos) % 4294967296 = v) : v * 16 % 4294967296 + hv s[pos] < 4294967296 → valL 16 (s.data.toList.take (pos + 1)) % 4294967296 = v * 16 % 4294967296 + hv s[pos] := by
  intro h
  rw [take_snoc s pos hp, valL_snoc]
  omega
theorem iterPos_at {w : World} {k : Nat} {s : ByteArray} {p : Nat} (h : w.heap[k]? = some (.stringIter s p)) : w.iterPos k = p := by simp [World.iterPos, h]

def HexPost (s : ByteArray) (w : World) (e : Ending) (w' : World) : Prop :=
  (s.data.toList.all isHexB = true ∧ e = .returned (.tuple #[.int .u32 ((valL 16 s.data.toList % 4294967296 : Nat) : Int), .bool ((s.size : Int) == 8)]) ∨
    s.data.toList.all isHexB = false ∧ e = .returned (.tuple #[.int .u32 0, .bool false])) ∧ Below w.heap.size w w'

end Go.Proofs.YtljeecocbcffcaaDoor

/- digits and value of the reference, walked. -/
namespace Go.Proofs.YtljeecocbcffcaaDoor
open Go.RowKit
set_option linter.unusedVariables false
set_option linter.unusedSimpArgs false

def strB (l : List UInt8) : ByteArray := ⟨l.toArray⟩

theorem strB_cons (d : Nat) (h : d < 16) (l : List UInt8) :
    (({ data := #[48, 49, 50, 51, 52, 53, 54, 55, 56, 57, 65, 66, 67, 68, 69, 70] } : ByteArray).extract d (d + 1)) ++ strB l = strB (dig d :: l) := by
  have e : (({ data := #[48, 49, 50, 51, 52, 53, 54, 55, 56, 57, 65, 66, 67, 68, 69, 70] } : ByteArray).extract d (d + 1)) = strB [dig d] := by
    revert d; decide
  rw [e]
  apply ByteArray.ext
  rw [ByteArray.data_append]; simp [strB]

theorem pow_base (b k t : Nat) (hb : b = 10 ∨ b = 16) (ht : t < 4294967296) (h : 0 < t / b ^ k) : k < 40 := by
  have h1 : b ^ k ≤ t := by
    rcases Nat.lt_or_ge t (b ^ k) with h2 | h2
    · rw [Nat.div_eq_of_lt h2] at h; omega
    · exact h2
  have h2 : 2 ^ k ≤ b ^ k := Nat.pow_le_pow_left (by omega) k
  rcases Nat.lt_or_ge k 40 with h3 | h3
  · exact h3
  · have h4 : 2 ^ 40 ≤ 2 ^ k := Nat.pow_le_pow_right (by decide) h3
    omega

end Go.Proofs.YtljeecocbcffcaaDoor

/- value of the reference, walked. -/
namespace Go.Proofs.YtljeecocbcffcaaDoor
open Go.RowKit
set_option linter.unusedVariables false
set_option linter.unusedSimpArgs false

/-- Which digit c is; 16 if it is none. -/
def hit (c : UInt8) : Nat := if isHexB c then hv c else 16
theorem hit_dig (d : Nat) (h : d < 16) : hit (dig d) = d := by revert d; decide
theorem dig_hit (c : UInt8) (h : hit c < 16) : dig (hit c) = c := by
  unfold hit at h ⊢
  split at h
  · rename_i hc
    rw [if_pos hc]
    unfold isHexB at hc
    have e : c = UInt8.ofNat c.toNat := by simp
    unfold dig hv
    simp only [Bool.or_eq_true, Bool.and_eq_true, decide_eq_true_eq] at hc
    split
    · rename_i h1; split
      · rw [e]; congr 1; simp; omega
      · omega
    · rename_i h1; split
      · omega
      · rw [e]; congr 1; simp; omega
  · omega
def stepR (b : Nat) (c : UInt8) (t n : Nat) : Nat := if hit c < n then b * t + hit c else t
theorem stepR_hit (b : Nat) (c : UInt8) (t n : Nat) (hn : n < 16) (h : dig n = c) : stepR b c t n = t ∧ stepR b c t (n + 1) = b * t + n := by
  have : hit c = n := by rw [← h, hit_dig n hn]
  unfold stepR
  rw [this, if_neg (by omega), if_pos (by omega)]
  exact ⟨rfl, rfl⟩
theorem stepR_miss (b : Nat) (c : UInt8) (t n : Nat) (hn : n < 16) (h : ¬ dig n = c) : stepR b c t (n + 1) = stepR b c t n := by
  have : ¬ hit c = n := fun h' => h (by rw [← h']; exact dig_hit c (by omega))
  unfold stepR
  by_cases h2 : hit c < n
  · rw [if_pos h2, if_pos (by omega)]
  · rw [if_neg h2, if_neg (by omega)]
def valR (b : Nat) (l : List UInt8) : Nat := l.foldl (fun t c => stepR b c t b) 0
theorem valR_snoc (b : Nat) (l : List UInt8) (c : UInt8) : valR b (l ++ [c]) = stepR b c (valR b l) b := by simp [valR]
theorem stepR_le (b : Nat) (c : UInt8) (t n : Nat) (hb : b ≤ 16) (hn : n ≤ 16) : stepR b c t n ≤ 16 * t + 15 := by
  unfold stepR
  split
  · have := Nat.mul_le_mul_right t hb; omega
  · omega
theorem valR_le (b : Nat) (hb : b ≤ 16) (l : List UInt8) : ∀ t, l.foldl (fun t c => stepR b c t b) t + 1 ≤ 16 ^ l.length * (t + 1) := by
  induction l with
  | nil => simp
  | cons c l ih =>
    intro t
    rw [List.foldl_cons, List.length_cons, Nat.pow_succ]
    have h1 := ih (stepR b c t b)
    have h2 := stepR_le b c t b hb hb
    have h3 : 16 ^ l.length * (stepR b c t b + 1) ≤ 16 ^ l.length * (16 * (t + 1)) := Nat.mul_le_mul_left _ (by omega)
    rw [← Nat.mul_assoc] at h3
    omega
theorem valR_lt (b : Nat) (hb : b ≤ 16) (l : List UInt8) : valR b l < 16 ^ l.length := by
  have := valR_le b hb l 0
  unfold valR
  omega
theorem eq_toNat (c d : UInt8) : (((c.toNat : Nat) : Int) == ((d.toNat : Nat) : Int)) = decide (c = d) := by
  rw [Bool.eq_iff_iff, beq_iff_eq, decide_eq_true_iff, Int.ofNat_inj, UInt8.toNat_inj]

end Go.Proofs.YtljeecocbcffcaaDoor

/- The plain law of texts: Read and Text. -/
namespace Go.Proofs.YtljeecocbcffcaaDoor
open Go.RowKit
set_option linter.unusedVariables false
set_option linter.unusedSimpArgs false

theorem digL_snoc (b N t : Nat) : digL b (N + 1) t = digL b N (t / b) ++ [dig (t % b)] := by
  induction N with
  | zero => simp [digL]
  | succ N ih =>
    show dig (t / b ^ (N + 1) % b) :: digL b (N + 1) t = dig (t / b / b ^ N % b) :: digL b N (t / b) ++ [dig (t % b)]
    rw [ih, Nat.pow_succ, Nat.mul_comm, ← Nat.div_div_eq_div_mul]
    rfl
theorem dig_dec (d : Nat) (h : d < 10) : dig d = UInt8.ofNat (48 + d) := by rw [dig, if_pos h]

/-- The decimal digits, and how many they are. -/
theorem dec_N (u : Nat) : ∃ N, (N = 0 ∨ 10 ^ N ≤ u) ∧ u < 10 ^ (N + 1) ∧ Lib.decDigits u = digL 10 (N + 1) u := by
  induction u using Nat.strongRecOn with
  | _ u ih =>
    by_cases h : u < 10
    · refine ⟨0, .inl rfl, by simpa using h, ?_⟩
      rw [Lib.decDigits_one h]
      simp [digL, Nat.mod_eq_of_lt h, dig_dec u h]
    · obtain ⟨N, h1, h2, h3⟩ := ih (u / 10) (by omega)
      refine ⟨N + 1, .inr ?_, ?_, ?_⟩
      · rw [Nat.pow_succ]
        rcases h1 with rfl | h1
        · simp; omega
        · omega
      · rw [Nat.pow_succ]; omega
      · rw [Lib.decDigits, dif_neg h, h3, digL_snoc 10 (N + 1) u, dig_dec _ (Nat.mod_lt _ (by decide))]
theorem dec_unique {u N : Nat} (h1 : N = 0 ∨ 10 ^ N ≤ u) (h2 : u < 10 ^ (N + 1)) : Lib.decDigits u = digL 10 (N + 1) u := by
  obtain ⟨M, g1, g2, g3⟩ := dec_N u
  have : M = N := by
    rcases Nat.lt_trichotomy M N with h | h | h
    · rcases h1 with rfl | h1
      · omega
      · have : 10 ^ (M + 1) ≤ 10 ^ N := Nat.pow_le_pow_right (by decide) (by omega)
        omega
    · exact h
    · rcases g1 with rfl | g1
      · omega
      · have : 10 ^ (N + 1) ≤ 10 ^ M := Nat.pow_le_pow_right (by decide) (by omega)
        omega
  rw [g3, this]

theorem val_digL (b : Nat) (hb : 0 < b) (hb16 : b ≤ 16) (N t : Nat) : ∀ acc, (digL b N t).foldl (fun t c => stepR b c t b) acc = acc * b ^ N + t % b ^ N := by
  induction N with
  | zero => intro acc; simp [digL, Nat.mod_one]
  | succ N ih =>
    intro acc
    have hd := Nat.mod_lt (t / b ^ N) hb
    rw [digL, List.foldl_cons, ih, stepR, hit_dig _ (by omega), if_pos hd, Nat.pow_succ, Nat.mod_mul, Nat.add_mul]
    have e1 : acc * (b ^ N * b) = b * acc * b ^ N := by rw [Nat.mul_comm (b ^ N) b, ← Nat.mul_assoc, Nat.mul_comm acc b]
    have e2 : t / b ^ N % b * b ^ N = b ^ N * (t / b ^ N % b) := Nat.mul_comm _ _
    omega
theorem valR_digL (b : Nat) (hb : 0 < b) (hb16 : b ≤ 16) (N t : Nat) (h : t < b ^ N) : valR b (digL b N t) = t := by
  rw [valR, val_digL b hb hb16, Nat.zero_mul, Nat.zero_add, Nat.mod_eq_of_lt h]

theorem dig_range (d : Nat) (h : d < 10) : 48 ≤ (dig d).toNat ∧ (dig d).toNat ≤ 57 ∧ (dig d).toNat - 48 = d := by revert d; decide
theorem isHex_dig (d : Nat) (h : d < 16) : isHexB (dig d) = true := by revert d; decide

theorem parse_digL (M : Nat) (hM : M < 1844674407370955162) (N t : Nat) : ∀ acc, acc * 10 ^ N + t % 10 ^ N ≤ M → Lib.parseUintM M acc (digL 10 N t) = .ok (acc * 10 ^ N + t % 10 ^ N) := by
  induction N with
  | zero => intro acc _; simp [digL, Lib.parseUintM, Nat.mod_one]
  | succ N ih =>
    intro acc h
    have hd := Nat.mod_lt (t / 10 ^ N) (show 0 < 10 by decide)
    obtain ⟨d0, d1, d2⟩ := dig_range _ hd
    have e : (acc * 10 + t / 10 ^ N % 10) * 10 ^ N + t % 10 ^ N = acc * 10 ^ (N + 1) + t % 10 ^ (N + 1) := by
      rw [Nat.pow_succ, Nat.mod_mul, Nat.add_mul]
      have e1 : acc * (10 ^ N * 10) = acc * 10 * 10 ^ N := by rw [Nat.mul_comm (10 ^ N) 10, ← Nat.mul_assoc]
      have e2 : t / 10 ^ N % 10 * 10 ^ N = 10 ^ N * (t / 10 ^ N % 10) := Nat.mul_comm _ _
      omega
    have hp : 0 < 10 ^ N := Nat.pow_pos (by decide)
    have hle : acc * 10 + t / 10 ^ N % 10 ≤ M := by
      have h3 : (acc * 10 + t / 10 ^ N % 10) * 1 ≤ (acc * 10 + t / 10 ^ N % 10) * 10 ^ N := Nat.mul_le_mul_left _ hp
      omega
    rw [digL, Lib.parseUintM, if_pos ⟨d0, d1⟩, d2, if_neg (by omega), if_neg (by omega), ih _ (by omega), e]

theorem parse_dec (u : Nat) (h : u ≤ 2147483648) : Lib.parseUintB 32 (Lib.decDigits u) = .ok u := by
  obtain ⟨N, g1, g2, g3⟩ := dec_N u
  rw [g3]
  have hne : digL 10 (N + 1) u ≠ [] := by simp [digL]
  have e : (2 ^ 32 - 1 : Nat) = 4294967295 := by decide
  rw [Lib.parseUintB, if_neg hne, e, parse_digL 4294967295 (by decide) (N + 1) u 0 (by rw [Nat.mod_eq_of_lt g2]; omega), Nat.mod_eq_of_lt g2]
  simp
theorem dec_head (u : Nat) : ∃ c r, Lib.decDigits u = c :: r ∧ 48 ≤ c.toNat ∧ c.toNat ≤ 57 := by
  obtain ⟨N, g1, g2, g3⟩ := dec_N u
  have hd := dig_range (u / 10 ^ N % 10) (Nat.mod_lt _ (by decide))
  exact ⟨_, _, g3, hd.1, hd.2.1⟩
theorem dec_len (u : Nat) (h : u ≤ 2147483648) : (Lib.decDigits u).length ≤ 10 := by
  obtain ⟨N, g1, g2, g3⟩ := dec_N u
  rw [g3, digL_length]
  rcases g1 with rfl | g1
  · omega
  · rcases Nat.lt_or_ge N 10 with h1 | h1
    · omega
    · have : (10 : Nat) ^ 10 ≤ 10 ^ N := Nat.pow_le_pow_right (by decide) h1
      omega

theorem itoa_pos {v : Int} (h : 0 ≤ v) : Lib.itoa v = Lib.decDigits v.toNat := by unfold Lib.itoa; rw [if_neg (by omega)]
theorem itoa_neg' {v : Int} (h : v < 0) : Lib.itoa v = 45 :: Lib.decDigits v.natAbs := by unfold Lib.itoa; rw [if_pos h]
theorem itoa_head (v : Int) : ∃ c r, Lib.itoa v = c :: r ∧ c.toNat ≠ 35 ∧ c.toNat ≠ 43 ∧ ((v < 0 ∧ c = 45 ∧ r = Lib.decDigits v.natAbs) ∨ (0 ≤ v ∧ c.toNat ≠ 45)) := by
  by_cases h : v < 0
  · exact ⟨_, _, itoa_neg' h, by decide, by decide, .inl ⟨h, rfl, rfl⟩⟩
  · obtain ⟨c, r, e, h1, h2⟩ := dec_head v.toNat
    exact ⟨c, r, by rw [itoa_pos (by omega), e], by omega, by omega, .inr ⟨by omega, by omega⟩⟩
theorem itoa_len (v : Int) (hv : is32 v) : (Lib.itoa v).length ≤ 11 := by
  obtain ⟨v0, v1⟩ := hv
  by_cases h : v < 0
  · rw [itoa_neg' h, List.length_cons]
    have := dec_len v.natAbs (by omega); omega
  · rw [itoa_pos (by omega)]
    have := dec_len v.toNat (by omega); omega
theorem parse_itoa (v : Int) (hv : is32 v) : Lib.parseIntB 32 (Lib.itoa v) = .ok v := by
  obtain ⟨v0, v1⟩ := hv
  by_cases h : v < 0
  · rw [itoa_neg' h, Lib.parseIntB_minus, parse_dec _ (by omega)]
    have e : (2 ^ (32 - 1) : Nat) = 2147483648 := by decide
    rw [e]
    simp only [Lib.signedC]
    rw [if_neg (by omega)]
    congr 1; omega
  · obtain ⟨c, r, e1, h1, h2⟩ := dec_head v.toNat
    rw [itoa_pos (by omega), e1, Lib.parseIntB_plain 32 c r (by omega) (by omega), ← e1, parse_dec _ (by omega)]
    have e : (2 ^ (32 - 1) : Nat) = 2147483648 := by decide
    rw [e]
    simp only [Lib.signlessC]
    rw [if_neg (by omega)]
    congr 1; omega

/-- A word's text. -/
def textL (v : Int) (h : Bool) : List UInt8 := if h then 35 :: digL 16 8 (u32 v).toNat else Lib.itoa v
theorem u32_lt16 (v : Int) : (u32 v).toNat < 16 ^ 8 := by
  have h := u32_bounds v
  have e : (16 : Nat) ^ 8 = 4294967296 := by decide
  omega
theorem u32_inj {a b : Int} (ha : is32 a) (hb : is32 b) (h : (u32 a).toNat = (u32 b).toNat) : a = b := by
  obtain ⟨a0, a1⟩ := ha
  obtain ⟨b0, b1⟩ := hb
  unfold u32 at h; omega
theorem textL_inj {a b : Int} {g h : Bool} (ha : is32 a) (hb : is32 b) (e : textL a g = textL b h) : a = b ∧ g = h := by
  have head : ∀ x y : Int, ∀ l, (35 :: l : List UInt8) ≠ Lib.itoa y := fun x y l he => by
    obtain ⟨c, r, e1, h1, -, -⟩ := itoa_head y
    rw [e1] at he
    injection he with he _
    subst he
    exact h1 rfl
  cases g <;> cases h
  · simp only [textL] at e
    have h1 := parse_itoa a ha
    have e' : Lib.itoa a = Lib.itoa b := e
    rw [e', parse_itoa b hb] at h1
    injection h1 with h1
    exact ⟨h1.symm, rfl⟩
  · exact absurd e.symm (head b a _)
  · exact absurd e (head a b _)
  · have e' : (35 :: digL 16 8 (u32 a).toNat : List UInt8) = 35 :: digL 16 8 (u32 b).toNat := e
    injection e' with _ e'
    have h1 := valR_digL 16 (by decide) (by decide) 8 _ (u32_lt16 a)
    rw [e', valR_digL 16 (by decide) (by decide) 8 _ (u32_lt16 b)] at h1
    exact ⟨u32_inj ha hb h1.symm, rfl⟩

/-- What Read has to say of a text. -/
def IsRead (l : List UInt8) (v er : Int) : Prop := (er = 0 ∧ is32 v ∧ ∃ h, l = textL v h) ∨ (er = 5 ∧ v = 0 ∧ ∀ v h, is32 v → l ≠ textL v h)
theorem IsRead.unique {l : List UInt8} {v v' er er' : Int} (h : IsRead l v er) (h' : IsRead l v' er') : v = v' ∧ er = er' := by
  rcases h with ⟨rfl, hv, g, e⟩ | ⟨rfl, rfl, hn⟩ <;> rcases h' with ⟨rfl, hv', g', e'⟩ | ⟨rfl, rfl, hn'⟩
  · exact ⟨(textL_inj hv hv' (e ▸ e')).1, rfl⟩
  · exact absurd e (hn' v g hv)
  · exact absurd e' (hn v' g' hv')
  · exact ⟨rfl, rfl⟩
theorem isRead_text {v : Int} (hv : is32 v) (h : Bool) : IsRead (textL v h) v 0 := .inl ⟨rfl, hv, h, rfl⟩

/-! The program's reading of eight hexadecimal digits. -/
theorem valL_foldl (b : Nat) (l : List UInt8) : ∀ t, l.all isHexB = true → l.foldl (fun t c => 16 * t + hv c) t = l.foldl (fun t c => stepR 16 c t 16) t := by
  induction l with
  | nil => intro t _; rfl
  | cons c l ih =>
    intro t h
    rw [List.all_cons, Bool.and_eq_true] at h
    have hh : hit c = hv c := by unfold hit; rw [if_pos h.1]
    have h16 : hv c < 16 := by
      have := h.1
      unfold isHexB at this
      simp only [Bool.or_eq_true, Bool.and_eq_true, decide_eq_true_eq] at this
      unfold hv; split <;> omega
    rw [List.foldl_cons, List.foldl_cons, ih _ h.2, stepR, hh, if_pos h16]
theorem valL_valR {l : List UInt8} (h : l.all isHexB = true) : valL 16 l = valR 16 l := valL_foldl 16 l 0 h
theorem hit_hex {c : UInt8} (h : isHexB c = true) : hit c < 16 := by
  have := h
  unfold isHexB at this
  simp only [Bool.or_eq_true, Bool.and_eq_true, decide_eq_true_eq] at this
  unfold hit; rw [if_pos h]
  unfold hv; split <;> omega
theorem valR_ge (l : List UInt8) (h : l.all isHexB = true) : ∀ t, 16 ^ l.length * t ≤ l.foldl (fun t c => stepR 16 c t 16) t := by
  induction l with
  | nil => intro t; simp
  | cons c l ih =>
    intro t
    rw [List.all_cons, Bool.and_eq_true] at h
    rw [List.foldl_cons, List.length_cons, Nat.pow_succ]
    have h1 := ih h.2 (stepR 16 c t 16)
    have h2 : 16 * t ≤ stepR 16 c t 16 := by rw [stepR, if_pos (hit_hex h.1)]; omega
    have h3 : 16 ^ l.length * (16 * t) ≤ 16 ^ l.length * stepR 16 c t 16 := Nat.mul_le_mul_left _ h2
    rw [← Nat.mul_assoc] at h3
    omega
theorem digL_val (l : List UInt8) (h : l.all isHexB = true) : ∀ acc, digL 16 l.length (l.foldl (fun t c => stepR 16 c t 16) acc) = l := by
  induction l with
  | nil => intro; rfl
  | cons c l ih =>
    intro acc
    rw [List.all_cons, Bool.and_eq_true] at h
    rw [List.foldl_cons, List.length_cons, digL, ih h.2]
    congr 1
    have h16 := hit_hex h.1
    have e1 : stepR 16 c acc 16 = 16 * acc + hit c := by rw [stepR, if_pos h16]
    have h1 := valR_ge l h.2 (stepR 16 c acc 16)
    have h2 := valR_le 16 (by decide) l (stepR 16 c acc 16)
    have hp : 0 < 16 ^ l.length := Nat.pow_pos (by decide)
    have h3 : (l.foldl (fun t c => stepR 16 c t 16) (stepR 16 c acc 16)) / 16 ^ l.length = stepR 16 c acc 16 := by
      refine Nat.div_eq_of_lt_le ?_ ?_
      · rw [Nat.mul_comm]; exact h1
      · rw [Nat.mul_comm]; exact h2
    rw [h3, e1]
    have h4 : (16 * acc + hit c) % 16 = hit c := by omega
    rw [h4]
    exact dig_hit c h16
theorem hex_back (l : List UInt8) (h : l.all isHexB = true) (h8 : l.length = 8) : (35 :: l) = textL (wrap32 (valL 16 l % 4294967296 : Nat)) true ∧ valL 16 l < 4294967296 := by
  have h1 := digL_val l h 0
  have h2 := valR_lt 16 (by decide) l
  rw [h8] at h1 h2
  have e : (16 : Nat) ^ 8 = 4294967296 := by decide
  rw [e] at h2
  rw [valL_valR h]
  refine ⟨?_, h2⟩
  show 35 :: l = 35 :: digL 16 8 (u32 _).toNat
  have e2 : (u32 (wrap32 ((valR 16 l % 4294967296 : Nat) : Int))).toNat = valR 16 l := by
    generalize valR 16 l = z at h2
    unfold u32 wrap32; omega
  rw [e2]
  exact congrArg _ h1.symm
theorem hex_all (z : Nat) (N : Nat) : (digL 16 N z).all isHexB = true := by
  induction N with
  | zero => rfl
  | succ N ih => rw [digL, List.all_cons, ih, isHex_dig _ (Nat.mod_lt _ (by decide))]; rfl
end Go.Proofs.YtljeecocbcffcaaDoor

/- The plain law of texts, second part: what Read has to say. -/
namespace Go.Proofs.YtljeecocbcffcaaDoor
open Go.RowKit
set_option linter.unusedVariables false
set_option linter.unusedSimpArgs false

open Classical in
/-- The answer of Read. -/
noncomputable def readF (l : List UInt8) : Int × Int := if h : ∃ v g, is32 v ∧ l = textL v g then (h.choose, 0) else (0, 5)
theorem readF_text {v : Int} {g : Bool} (hv : is32 v) : readF (textL v g) = (v, 0) := by
  have h : ∃ v' g', is32 v' ∧ textL v g = textL v' g' := ⟨v, g, hv, rfl⟩
  rw [readF, dif_pos h]
  obtain ⟨g', h1, h2⟩ := h.choose_spec
  exact congrArg (fun x => (x, (0 : Int))) (textL_inj hv h1 h2).1.symm
theorem readF_no {l : List UInt8} (h : ∀ v g, is32 v → l ≠ textL v g) : readF l = (0, 5) := by
  rw [readF, dif_neg]
  rintro ⟨v, g, h1, h2⟩
  exact h v g h1 h2
theorem textL_len {v : Int} {g : Bool} (hv : is32 v) : 1 ≤ (textL v g).length ∧ (textL v g).length ≤ 11 := by
  cases g
  · have h := itoa_len v hv
    obtain ⟨c, r, e, -⟩ := itoa_head v
    simp only [textL, Bool.false_eq_true, if_false]
    exact ⟨by rw [e]; simp, h⟩
  · simp [textL, digL_length]
theorem textL_hex {v : Int} {g : Bool} {c : UInt8} {r : List UInt8} (h : c :: r = textL v g) : g = (c == 35) := by
  cases g
  · obtain ⟨c', r', e, h1, -⟩ := itoa_head v
    have e2 : c :: r = c' :: r' := by rw [h]; exact e
    injection e2 with e2 _
    subst e2
    simp only [Bool.false_eq, beq_eq_false_iff_ne, ne_eq]
    rintro rfl; exact h1 rfl
  · have e2 : c :: r = 35 :: digL 16 8 (u32 v).toNat := h
    injection e2 with e2 _
    subst e2; rfl

/-! The program's reading. -/
theorem readF_hex {r : List UInt8} (h : r.all isHexB = true) (h8 : r.length = 8) : readF (35 :: r) = (wrap32 (valL 16 r % 4294967296 : Nat), 0) := by
  rw [(hex_back r h h8).1]
  exact readF_text (wrap32_is _)
theorem readF_hexno {r : List UInt8} (h : r.all isHexB = false ∨ r.length ≠ 8) : readF (35 :: r) = (0, 5) :=
  readF_no fun v g hv e => by
    have hg := textL_hex e
    obtain rfl : g = true := by rw [hg]; rfl
    have e2 : 35 :: r = 35 :: digL 16 8 (u32 v).toNat := e
    injection e2 with _ e2
    subst e2
    rcases h with h | h
    · rw [hex_all] at h; cases h
    · exact h (digL_length _ _ _)
theorem readF_decno {l : List UInt8} (h : ∀ c r, l = c :: r → c ≠ 35) (hp : ∀ v, is32 v → Lib.parseIntB 32 l = .ok v → Lib.itoa v ≠ l) : readF l = (0, 5) :=
  readF_no fun v g hv e => by
    cases g
    · have e2 : l = Lib.itoa v := e
      exact hp v hv (by rw [e2]; exact parse_itoa v hv) e2.symm
    · exact h 35 _ e rfl
theorem readF_dec {v : Int} (hv : is32 v) : readF (Lib.itoa v) = (v, 0) := readF_text (g := false) hv

/-! The reference's reading. -/
/-- The number that the reference tries. -/
def tryV : List UInt8 → Int
  | [] => 0
  | c :: r => if c = 35 then valR 16 r else if c = 45 then -(valR 10 r : Int) else valR 10 (c :: r)
theorem valR_dec (u : Nat) : valR 10 (Lib.decDigits u) = u := by
  obtain ⟨N, g1, g2, g3⟩ := dec_N u
  rw [g3, valR_digL 10 (by decide) (by decide) _ _ g2]
theorem tryV_text (v : Int) (g : Bool) (hv : is32 v) : wrap32 (tryV (textL v g)) = v := by
  have hw : wrap32 v = v := by obtain ⟨a, b⟩ := hv; unfold wrap32; omega
  cases g
  · by_cases h : v < 0
    · have e : textL v false = 45 :: Lib.decDigits v.natAbs := itoa_neg' h
      rw [e, tryV, if_neg (by decide), if_pos rfl, valR_dec]
      have : -((v.natAbs : Nat) : Int) = v := by omega
      rw [this, hw]
    · obtain ⟨c, r, e1, h1, h2⟩ := dec_head v.toNat
      have e : textL v false = c :: r := (itoa_pos (by omega)).trans e1
      have n1 : c ≠ 35 := by rintro rfl; revert h1; decide
      have n2 : c ≠ 45 := by rintro rfl; revert h1; decide
      rw [e, tryV, if_neg n1, if_neg n2, ← e1, valR_dec]
      have : ((v.toNat : Nat) : Int) = v := by omega
      rw [this, hw]
  · have e : textL v true = 35 :: digL 16 8 (u32 v).toNat := rfl
    rw [e, tryV, if_pos rfl, valR_digL 16 (by decide) (by decide) 8 _ (u32_lt16 v)]
    obtain ⟨a, b⟩ := hv
    unfold u32 wrap32; omega
theorem readF_try_yes {c : UInt8} {r : List UInt8} (h : textL (wrap32 (tryV (c :: r))) (c == 35) = c :: r) : readF (c :: r) = (wrap32 (tryV (c :: r)), 0) := by
  have h2 := readF_text (g := c == 35) (wrap32_is (tryV (c :: r)))
  rw [h] at h2; exact h2
theorem readF_try_no {c : UInt8} {r : List UInt8} (h : textL (wrap32 (tryV (c :: r))) (c == 35) ≠ c :: r) : readF (c :: r) = (0, 5) :=
  readF_no fun v g hv e => h (by
    have hg := textL_hex e
    have hv2 : wrap32 (tryV (c :: r)) = v := by rw [e]; exact tryV_text v g hv
    rw [hv2, ← hg, ← e])
theorem readF_len {l : List UInt8} (h : l.length < 1 ∨ 11 < l.length) : readF l = (0, 5) :=
  readF_no fun v g hv e => by
    have := textL_len (g := g) hv
    rw [e] at h; omega
end Go.Proofs.YtljeecocbcffcaaDoor

/- The tables of chapter 05, and what its functions answer, in plain words. -/
namespace Go.Proofs.YtljeecocbcffcaaDoor
open Go.RowKit
set_option linter.unusedVariables false
set_option linter.unusedSimpArgs false

/-- A row of a table. -/
structure IRow where
  fn : Nat
  arg : Nat
  name : List UInt8
  takes : Nat
  leaves : Nat
deriving DecidableEq
/-- The functions: number, mnemonic, words taken and left. -/
def tabF : List IRow := [⟨0, 0, [106], 0, 0⟩,
  ⟨1, 0, [108, 100, 108, 112], 0, 1⟩,
  ⟨3, 0, [108, 100, 110, 108], 1, 1⟩,
  ⟨4, 0, [108, 100, 99], 0, 1⟩,
  ⟨5, 0, [108, 100, 110, 108, 112], 1, 1⟩,
  ⟨7, 0, [108, 100, 108], 0, 1⟩,
  ⟨8, 0, [97, 100, 99], 1, 1⟩,
  ⟨9, 0, [99, 97, 108, 108], 3, 1⟩,
  ⟨10, 0, [99, 106], 1, 0⟩,
  ⟨11, 0, [97, 106, 119], 0, 0⟩,
  ⟨12, 0, [101, 113, 99], 1, 1⟩,
  ⟨13, 0, [115, 116, 108], 1, 0⟩,
  ⟨14, 0, [115, 116, 110, 108], 2, 0⟩]
/-- The operations: code, mnemonic, words taken and left. -/
def tabO : List IRow := [⟨15, 0, [114, 101, 118], 2, 2⟩,
  ⟨15, 1, [108, 98], 1, 1⟩,
  ⟨15, 2, [98, 115, 117, 98], 2, 1⟩,
  ⟨15, 3, [101, 110, 100, 112], 1, 0⟩,
  ⟨15, 4, [100, 105, 102, 102], 2, 1⟩,
  ⟨15, 5, [97, 100, 100], 2, 1⟩,
  ⟨15, 6, [103, 99, 97, 108, 108], 1, 1⟩,
  ⟨15, 7, [105, 110], 3, 0⟩,
  ⟨15, 8, [112, 114, 111, 100], 2, 1⟩,
  ⟨15, 9, [103, 116], 2, 1⟩,
  ⟨15, 10, [119, 115, 117, 98], 2, 1⟩,
  ⟨15, 11, [111, 117, 116], 3, 0⟩,
  ⟨15, 12, [115, 117, 98], 2, 1⟩,
  ⟨15, 13, [115, 116, 97, 114, 116, 112], 2, 0⟩,
  ⟨15, 14, [111, 117, 116, 98, 121, 116, 101], 2, 0⟩,
  ⟨15, 15, [111, 117, 116, 119, 111, 114, 100], 2, 0⟩,
  ⟨15, 16, [115, 101, 116, 101, 114, 114], 0, 0⟩,
  ⟨15, 18, [114, 101, 115, 101, 116, 99, 104], 1, 1⟩,
  ⟨15, 19, [99, 115, 117, 98, 48], 2, 1⟩,
  ⟨15, 21, [115, 116, 111, 112, 112], 0, 0⟩,
  ⟨15, 22, [108, 97, 100, 100], 3, 1⟩,
  ⟨15, 25, [110, 111, 114, 109], 2, 3⟩,
  ⟨15, 26, [108, 100, 105, 118], 3, 2⟩,
  ⟨15, 27, [108, 100, 112, 105], 1, 1⟩,
  ⟨15, 29, [120, 100, 98, 108, 101], 1, 2⟩,
  ⟨15, 30, [108, 100, 112, 114, 105], 0, 1⟩,
  ⟨15, 31, [114, 101, 109], 2, 1⟩,
  ⟨15, 32, [114, 101, 116], 0, 0⟩,
  ⟨15, 33, [108, 101, 110, 100], 2, 0⟩,
  ⟨15, 34, [108, 100, 116, 105, 109, 101, 114], 0, 1⟩,
  ⟨15, 41, [116, 101, 115, 116, 101, 114, 114], 0, 1⟩,
  ⟨15, 43, [116, 105, 110], 1, 0⟩,
  ⟨15, 44, [100, 105, 118], 2, 1⟩,
  ⟨15, 46, [100, 105, 115, 116], 3, 1⟩,
  ⟨15, 47, [100, 105, 115, 99], 3, 1⟩,
  ⟨15, 48, [100, 105, 115, 115], 2, 1⟩,
  ⟨15, 49, [108, 109, 117, 108], 3, 2⟩,
  ⟨15, 50, [110, 111, 116], 1, 1⟩,
  ⟨15, 51, [120, 111, 114], 2, 1⟩,
  ⟨15, 52, [98, 99, 110, 116], 1, 1⟩,
  ⟨15, 53, [108, 115, 104, 114], 3, 2⟩,
  ⟨15, 54, [108, 115, 104, 108], 3, 2⟩,
  ⟨15, 55, [108, 115, 117, 109], 3, 2⟩,
  ⟨15, 56, [108, 115, 117, 98], 3, 1⟩,
  ⟨15, 57, [114, 117, 110, 112], 1, 0⟩,
  ⟨15, 58, [120, 119, 111, 114, 100], 2, 1⟩,
  ⟨15, 59, [115, 98], 2, 0⟩,
  ⟨15, 60, [103, 97, 106, 119], 1, 1⟩,
  ⟨15, 63, [119, 99, 110, 116], 1, 2⟩,
  ⟨15, 64, [115, 104, 114], 2, 1⟩,
  ⟨15, 65, [115, 104, 108], 2, 1⟩,
  ⟨15, 66, [109, 105, 110, 116], 0, 1⟩,
  ⟨15, 67, [97, 108, 116], 0, 0⟩,
  ⟨15, 68, [97, 108, 116, 119, 116], 0, 0⟩,
  ⟨15, 69, [97, 108, 116, 101, 110, 100], 0, 0⟩,
  ⟨15, 70, [97, 110, 100], 2, 1⟩,
  ⟨15, 71, [101, 110, 98, 116], 2, 1⟩,
  ⟨15, 72, [101, 110, 98, 99], 2, 1⟩,
  ⟨15, 73, [101, 110, 98, 115], 1, 1⟩,
  ⟨15, 74, [109, 111, 118, 101], 3, 0⟩,
  ⟨15, 75, [111, 114], 2, 1⟩,
  ⟨15, 76, [99, 115, 110, 103, 108], 2, 1⟩,
  ⟨15, 77, [99, 99, 110, 116, 49], 2, 1⟩,
  ⟨15, 78, [116, 97, 108, 116], 0, 0⟩,
  ⟨15, 79, [108, 100, 105, 102, 102], 3, 2⟩,
  ⟨15, 81, [116, 97, 108, 116, 119, 116], 0, 0⟩,
  ⟨15, 82, [115, 117, 109], 2, 1⟩,
  ⟨15, 83, [109, 117, 108], 2, 1⟩,
  ⟨15, 84, [115, 116, 116, 105, 109, 101, 114], 1, 0⟩,
  ⟨15, 85, [115, 116, 111, 112, 101, 114, 114], 0, 0⟩,
  ⟨15, 86, [99, 119, 111, 114, 100], 2, 1⟩,
  ⟨15, 87, [99, 108, 114, 104, 97, 108, 116, 101, 114, 114], 0, 0⟩,
  ⟨15, 88, [115, 101, 116, 104, 97, 108, 116, 101, 114, 114], 0, 0⟩,
  ⟨15, 89, [116, 101, 115, 116, 104, 97, 108, 116, 101, 114, 114], 0, 1⟩]
def irow0 : IRow := ⟨0, 0, [], 0, 0⟩
/-- The row of an instruction. -/
def findI (fn arg : Int) : Option IRow := if fn = 15 then tabO.find? fun r => (r.arg : Int) == arg else tabF.find? fun r => (r.fn : Int) == fn
/-- The row of a mnemonic. -/
def namedI (n : List UInt8) : Option IRow := (tabF ++ tabO).find? fun r => r.name == n
/-- An instruction's text. -/
def textI (fn arg : Int) : List UInt8 × Int :=
  match findI fn arg with
  | none => ([], 2)
  | some r => (if fn = 15 then r.name else r.name ++ 32 :: textL arg false, 0)
/-- What is read: function, operand, error. -/
noncomputable def readI (l : List UInt8) : Int × Int × Int :=
  match namedI (l.takeWhile (· != 32)) with
  | none => (0, 0, 50)
  | some r =>
    match l.dropWhile (· != 32) with
    | [] => if r.fn = 15 then (r.fn, r.arg, 0) else (0, 0, 5)
    | _ :: o => if r.fn = 15 then (0, 0, 5) else if (readF o).2 = 0 then (r.fn, (readF o).1, 0) else (0, 0, 5)
theorem tabF_len : tabF.length = 13 := rfl
theorem tabO_len : tabO.length = 74 := rfl
theorem names_nodup : ((tabF ++ tabO).map (·.name)).Nodup := by decide +kernel
theorem fns_nodup : (tabF.map (·.fn)).Nodup := by decide
theorem args_nodup : (tabO.map (·.arg)).Nodup := by decide +kernel
theorem tabF_ok : ∀ r ∈ tabF, r.fn < 15 ∧ r.arg = 0 ∧ r.name ≠ [] ∧ (∀ c ∈ r.name, c ≠ 32) ∧ r.name.length ≤ 12 ∧ r.takes ≤ 3 ∧ r.leaves ≤ 3 ∧ r.leaves ≤ r.takes + 1 := by decide +kernel
theorem tabO_ok : ∀ r ∈ tabO, r.fn = 15 ∧ r.arg < 256 ∧ r.name ≠ [] ∧ (∀ c ∈ r.name, c ≠ 32) ∧ r.name.length ≤ 12 ∧ r.takes ≤ 3 ∧ r.leaves ≤ 3 ∧ r.leaves ≤ r.takes + 1 := by decide +kernel
theorem takeWhile_all {l m : List UInt8} (h : ∀ c ∈ l, c ≠ 32) : (l ++ 32 :: m).takeWhile (· != 32) = l ∧ (l ++ 32 :: m).dropWhile (· != 32) = 32 :: m := by
  induction l with
  | nil => simp
  | cons c l ih =>
    have hc : (c != 32) = true := by simpa using h c (by simp)
    obtain ⟨h1, h2⟩ := ih fun c hc => h c (by simp [hc])
    simp [hc, h1, h2]
theorem takeWhile_none {l : List UInt8} (h : ∀ c ∈ l, c ≠ 32) : l.takeWhile (· != 32) = l ∧ l.dropWhile (· != 32) = [] := by
  induction l with
  | nil => simp
  | cons c l ih =>
    have hc : (c != 32) = true := by simpa using h c (by simp)
    obtain ⟨h1, h2⟩ := ih fun c hc => h c (by simp [hc])
    simp [hc, h1, h2]
theorem find_nodup {α β : Type} [BEq β] [LawfulBEq β] (f : α → β) : ∀ (l : List α), (l.map f).Nodup → ∀ x ∈ l, l.find? (fun y => f y == f x) = some x
  | [], _, x, h => by cases h
  | y :: l, hn, x, h => by
    rw [List.map_cons, List.nodup_cons] at hn
    rw [List.find?_cons]
    by_cases he : f y = f x
    · rcases List.mem_cons.1 h with rfl | h2
      · simp
      · exact absurd (he ▸ List.mem_map_of_mem h2) hn.1
    · have hne : (f y == f x) = false := by simpa using he
      rw [hne]
      rcases List.mem_cons.1 h with rfl | h2
      · exact absurd rfl he
      · exact find_nodup f l hn.2 x h2
theorem named_of {r : IRow} (h : r ∈ tabF ++ tabO) : namedI r.name = some r := find_nodup (fun q : IRow => q.name) (tabF ++ tabO) names_nodup r h
theorem findI_some {fn arg : Int} {r : IRow} (h : findI fn arg = some r) : r ∈ tabF ++ tabO ∧ ((fn = 15 ∧ r.fn = 15 ∧ (r.arg : Int) = arg) ∨ (fn ≠ 15 ∧ (r.fn : Int) = fn ∧ r.arg = 0)) := by
  unfold findI at h
  split at h
  · rename_i hf
    have hm := List.mem_of_find?_eq_some h
    have hp := List.find?_some h
    simp only [beq_iff_eq] at hp
    exact ⟨List.mem_append_right _ hm, .inl ⟨hf, (tabO_ok r hm).1, hp⟩⟩
  · rename_i hf
    have hm := List.mem_of_find?_eq_some h
    have hp := List.find?_some h
    simp only [beq_iff_eq] at hp
    exact ⟨List.mem_append_left _ hm, .inr ⟨hf, hp, (tabF_ok r hm).2.1⟩⟩
theorem row_ok {r : IRow} (h : r ∈ tabF ++ tabO) : r.name ≠ [] ∧ (∀ c ∈ r.name, c ≠ 32) ∧ r.name.length ≤ 12 := by
  rcases List.mem_append.1 h with h | h
  · have := tabF_ok r h; exact ⟨this.2.2.1, this.2.2.2.1, this.2.2.2.2.1⟩
  · have := tabO_ok r h; exact ⟨this.2.2.1, this.2.2.2.1, this.2.2.2.2.1⟩
/-- What is written is read back. -/
theorem read_text_I {fn arg : Int} (ha : is32 arg) (h : (textI fn arg).2 = 0) : readI (textI fn arg).1 = (fn, arg, 0) := by
  unfold textI at h ⊢
  cases hf : findI fn arg with
  | none => rw [hf] at h; cases h
  | some r =>
    obtain ⟨hm, hc⟩ := findI_some hf
    obtain ⟨h1, h2, h3⟩ := row_ok hm
    rcases hc with ⟨rfl, e1, e2⟩ | ⟨h15, e1, e2⟩
    · simp only [if_true]
      obtain ⟨t1, t2⟩ := takeWhile_none h2
      rw [readI, t1, named_of hm]
      simp only [t2, e1, if_true, e2]
      rfl
    · simp only [if_neg h15]
      obtain ⟨t1, t2⟩ := takeWhile_all (m := textL arg false) h2
      rw [readI, t1, named_of hm]
      have hn : ¬ r.fn = 15 := fun h => h15 (by rw [← e1, h]; rfl)
      simp only [t2, if_neg hn, readF_text ha, if_true, e1]
/-- Different instructions have different texts. -/
theorem text_inj_I {f a g b : Int} (ha : is32 a) (hb : is32 b) (h1 : (textI f a).2 = 0) (h2 : (textI g b).2 = 0) (h : (textI f a).1 = (textI g b).1) : f = g ∧ a = b := by
  have e1 := read_text_I ha h1
  rw [h, read_text_I hb h2] at e1
  injection e1 with e1 e2
  injection e2 with e2 _
  exact ⟨e1.symm, e2.symm⟩
end Go.Proofs.YtljeecocbcffcaaDoor

/- The plain laws of chapter 05: wrong texts, other forms, mnemonics. -/
namespace Go.Proofs.YtljeecocbcffcaaDoor
open Go.RowKit
set_option linter.unusedVariables false
set_option linter.unusedSimpArgs false

theorem dig_ne32 : ∀ d, d < 16 → dig d ≠ 32 := by decide
theorem digL_mem {b : Nat} (hb : 0 < b) (hb16 : b ≤ 16) (t : Nat) : ∀ i, ∀ c ∈ digL b i t, ∃ d, d < 16 ∧ c = dig d
  | 0, c, h => by cases h
  | i + 1, c, h => by
    rw [digL] at h
    rcases List.mem_cons.1 h with rfl | h
    · exact ⟨_, by have := Nat.mod_lt (t / b ^ i) hb; omega, rfl⟩
    · exact digL_mem hb hb16 t i c h
theorem dec_ne32 (u : Nat) : ∀ c ∈ Lib.decDigits u, c ≠ 32 := by
  obtain ⟨N, _, _, g3⟩ := dec_N u
  rw [g3]
  intro c hc
  obtain ⟨d, hd, rfl⟩ := digL_mem (by decide) (by decide) u _ c hc
  exact dig_ne32 d hd
theorem textL_ne32 (v : Int) (g : Bool) : ∀ c ∈ textL v g, c ≠ 32 := by
  intro c hc
  cases g
  · have hc' : c ∈ Lib.itoa v := hc
    by_cases h : v < 0
    · rw [itoa_neg' h] at hc'
      rcases List.mem_cons.1 hc' with rfl | h
      · decide
      · exact dec_ne32 _ c h
    · rw [itoa_pos (by omega)] at hc'
      exact dec_ne32 _ c hc'
  · have hc' : c ∈ 35 :: digL 16 8 (u32 v).toNat := hc
    rcases List.mem_cons.1 hc' with rfl | h
    · decide
    · obtain ⟨d, hd, rfl⟩ := digL_mem (by decide) (by decide) _ _ c h
      exact dig_ne32 d hd
theorem readF_space {l : List UInt8} (h : (32 : UInt8) ∈ l) : readF l = (0, 5) :=
  readF_no fun v g _ e => textL_ne32 v g 32 (e ▸ h) rfl
theorem named_none {n : List UInt8} (h : ∀ r ∈ tabF ++ tabO, r.name ≠ n) : namedI n = none := by
  unfold namedI
  rw [List.find?_eq_none]
  intro r hr
  simpa using h r hr
theorem named_some {n : List UInt8} {r : IRow} (h : namedI n = some r) : r ∈ tabF ++ tabO ∧ r.name = n := by
  unfold namedI at h
  have hp := List.find?_some h
  exact ⟨List.mem_of_find?_eq_some h, by simpa using hp⟩
theorem row_15 {r : IRow} (h : r ∈ tabF ++ tabO) : (r.fn = 15 ∧ r ∈ tabO ∧ r.arg < 256) ∨ (r.fn < 15 ∧ r ∈ tabF ∧ r.arg = 0) := by
  rcases List.mem_append.1 h with h | h
  · exact .inr ⟨(tabF_ok r h).1, h, (tabF_ok r h).2.1⟩
  · exact .inl ⟨(tabO_ok r h).1, h, (tabO_ok r h).2.1⟩
/-- A space in front. -/
theorem read_front (l : List UInt8) : readI (32 :: l) = (0, 0, 50) := by
  have h : namedI [] = none := named_none fun r hr => (row_ok hr).1
  rw [readI]
  have e : (32 :: l).takeWhile (fun x => x != 32) = [] := rfl
  rw [e, h]
/-- The parts of a text. -/
theorem text_parts {fn arg : Int} (h : (textI fn arg).2 = 0) : ∃ r, r ∈ tabF ++ tabO ∧ findI fn arg = some r ∧
    ((fn = 15 ∧ r.fn = 15 ∧ (r.arg : Int) = arg ∧ (textI fn arg).1 = r.name) ∨ (fn ≠ 15 ∧ (r.fn : Int) = fn ∧ r.fn ≠ 15 ∧ (textI fn arg).1 = r.name ++ 32 :: textL arg false)) := by
  unfold textI at h ⊢
  cases hf : findI fn arg with
  | none => rw [hf] at h; cases h
  | some r =>
    obtain ⟨hm, hc⟩ := findI_some hf
    refine ⟨r, hm, rfl, ?_⟩
    rcases hc with ⟨rfl, e1, e2⟩ | ⟨h15, e1, e2⟩
    · exact .inl ⟨rfl, e1, e2, by simp⟩
    · exact .inr ⟨h15, e1, fun h => h15 (by rw [← e1, h]; rfl), by simp [h15]⟩
theorem read_name {r : IRow} (hm : r ∈ tabF ++ tabO) (m : List UInt8) : readI (r.name ++ 32 :: m) = if r.fn = 15 then (0, 0, 5) else if (readF m).2 = 0 then ((r.fn : Int), (readF m).1, (0 : Int)) else (0, 0, 5) := by
  obtain ⟨t1, t2⟩ := takeWhile_all (m := m) (row_ok hm).2.1
  rw [readI, t1, named_of hm]
  simp only [t2]
theorem read_bare {r : IRow} (hm : r ∈ tabF ++ tabO) : readI r.name = if r.fn = 15 then ((r.fn : Int), (r.arg : Int), (0 : Int)) else (0, 0, 5) := by
  obtain ⟨t1, t2⟩ := takeWhile_none (row_ok hm).2.1
  rw [readI, t1, named_of hm]
  simp only [t2]
/-- A space behind. -/
theorem read_behind {fn arg : Int} (h : (textI fn arg).2 = 0) : readI ((textI fn arg).1 ++ [32]) = (0, 0, 5) := by
  obtain ⟨r, hm, _, ⟨rfl, e1, e2, e3⟩ | ⟨h15, e1, e2, e3⟩⟩ := text_parts h
  · rw [e3, read_name hm, if_pos e1]
  · rw [e3, List.append_assoc, List.cons_append, read_name hm, if_neg e2, readF_space (by simp)]
    rfl
/-- The space doubled. -/
theorem read_double {r : IRow} (hm : r ∈ tabF ++ tabO) (h : r.fn ≠ 15) (m : List UInt8) : readI (r.name ++ 32 :: 32 :: m) = (0, 0, 5) := by
  rw [read_name hm, if_neg h, readF_space (by simp)]
  rfl
theorem read_text2 {r : IRow} (hm : r ∈ tabF ++ tabO) (h : r.fn ≠ 15) {arg : Int} (ha : is32 arg) (g : Bool) : readI (r.name ++ 32 :: textL arg g) = ((r.fn : Int), arg, (0 : Int)) := by
  rw [read_name hm, if_neg h, readF_text ha]
  rfl
/-- Upper case. -/
def upB (c : UInt8) : UInt8 := if 97 ≤ c.toNat ∧ c.toNat ≤ 122 then c - 32 else c
theorem upper_none : ∀ r ∈ tabF ++ tabO, (∀ q ∈ tabF ++ tabO, q.name ≠ r.name.map upB) ∧ (∀ c ∈ r.name.map upB, c ≠ 32) ∧ r.name.map upB ≠ [] := by decide +kernel
theorem read_upper {r : IRow} (hm : r ∈ tabF ++ tabO) : readI (r.name.map upB) = (0, 0, 50) := by
  obtain ⟨h1, h2, h3⟩ := upper_none r hm
  rw [readI, (takeWhile_none h2).1, named_none h1]
theorem name_low : ∀ r ∈ tabF ++ tabO, ∀ c ∈ r.name, (97 ≤ c.toNat ∧ c.toNat ≤ 122) ∨ (48 ≤ c.toNat ∧ c.toNat ≤ 57) := by decide +kernel
theorem find_of_named {n : List UInt8} {r : IRow} (h : namedI n = some r) : findI r.fn r.arg = some r := by
  obtain ⟨hm, -⟩ := named_some h
  unfold findI
  rcases row_15 hm with ⟨h15, ho, _⟩ | ⟨h15, hf, h0⟩
  · rw [if_pos (by rw [h15]; rfl)]
    have := find_nodup (fun q : IRow => q.arg) tabO args_nodup r ho
    have e : (fun q : IRow => ((q.arg : Nat) : Int) == ((r.arg : Nat) : Int)) = fun q => q.arg == r.arg := by
      funext q; rw [Bool.eq_iff_iff]; simp; omega
    rw [e]; exact this
  · rw [if_neg (by omega)]
    have := find_nodup (fun q : IRow => q.fn) tabF fns_nodup r hf
    have e : (fun q : IRow => ((q.fn : Nat) : Int) == ((r.fn : Nat) : Int)) = fun q => q.fn == r.fn := by
      funext q; rw [Bool.eq_iff_iff]; simp; omega
    rw [e]; exact this
end Go.Proofs.YtljeecocbcffcaaDoor

/- The encoding of instructions, and the least lengths of lines, in plain words. -/
namespace Go.Proofs.YtljeecocbcffcaaDoor

/-- A function with an operand that is no negative number. -/
def encF : Nat → Nat → Nat → List UInt8
  | 0, fn, m => [UInt8.ofNat (16 * fn + m % 16)]
  | k + 1, fn, m => if 16 ≤ m then encF k 2 (m / 16) ++ [UInt8.ofNat (16 * fn + m % 16)] else [UInt8.ofNat (16 * fn + m % 16)]
/-- An instruction's bytes. -/
def encI (fn : Nat) (v : Int) : List UInt8 :=
  if v < 0 then encF 8 6 ((-1 - v) / 16).toNat ++ [UInt8.ofNat (16 * fn + (v % 16).toNat)] else encF 8 fn v.toNat
def nib : Nat → Nat → Nat
  | 0, _ => 1
  | k + 1, m => if 16 ≤ m then nib k (m / 16) + 1 else 1
theorem encF_len : ∀ (k fn m : Nat), (encF k fn m).length = nib k m
  | 0, _, _ => rfl
  | k + 1, fn, m => by
    rw [encF, nib]
    split
    · rw [List.length_append, encF_len k]; rfl
    · rfl
/-- How many bytes an operand takes. -/
def lenV (v : Int) : Nat := if v < 0 then nib 8 ((-1 - v) / 16).toNat + 1 else nib 8 v.toNat
theorem encI_len (fn : Nat) (v : Int) : (encI fn v).length = lenV v := by
  unfold encI lenV
  split
  · rw [List.length_append, encF_len]; rfl
  · rw [encF_len]
theorem nib_mono : ∀ (k m m' : Nat), m ≤ m' → nib k m ≤ nib k m'
  | 0, _, _, _ => Nat.le_refl _
  | k + 1, m, m', h => by
    rw [nib, nib]
    have h1 := nib_mono k (m / 16) (m' / 16) (Nat.div_le_div_right h)
    split <;> split <;> omega
theorem nib_pos (k m : Nat) : 1 ≤ nib k m := by
  cases k with
  | zero => exact Nat.le_refl _
  | succ k => rw [nib]; split <;> omega
theorem nib_le : ∀ (j k m : Nat), m < 16 ^ (j + 1) → nib k m ≤ j + 1
  | _, 0, _, _ => by rw [nib]; omega
  | 0, k + 1, m, h => by rw [nib, if_neg (by simpa using h)]; omega
  | j + 1, k + 1, m, h => by
    rw [nib]
    split
    · have := nib_le j k (m / 16) (by rw [Nat.div_lt_iff_lt_mul (by decide)]; rw [Nat.pow_succ] at h; exact h)
      omega
    · omega
theorem lenV_pos (v : Int) : 1 ≤ lenV v := by
  unfold lenV; split
  · omega
  · exact nib_pos _ _
theorem lenV_le {v : Int} (h : -2147483648 ≤ v ∧ v ≤ 2147483647) : lenV v ≤ 8 := by
  unfold lenV
  split
  · have := nib_le 6 8 ((-1 - v) / 16).toNat (by have : (16 : Nat) ^ (6 + 1) = 268435456 := by decide
                                                 omega)
    omega
  · exact nib_le 7 8 v.toNat (by have : (16 : Nat) ^ (7 + 1) = 4294967296 := by decide
                                 omega)
theorem lenV_up {a b : Int} (h0 : 0 ≤ a) (h : a ≤ b) : lenV a ≤ lenV b := by
  unfold lenV
  rw [if_neg (by omega), if_neg (by omega)]
  exact nib_mono _ _ _ (by omega)
theorem lenV_down {a b : Int} (h0 : a ≤ 0) (h : b ≤ a) : lenV a ≤ lenV b := by
  unfold lenV
  by_cases ha : a < 0
  · rw [if_pos ha, if_pos (by omega)]
    have := nib_mono 8 ((-1 - a) / 16).toNat ((-1 - b) / 16).toNat (by omega)
    omega
  · obtain rfl : a = 0 := by omega
    have h1 : nib 8 (0 : Int).toNat = 1 := by decide
    rw [if_neg (by omega), h1]
    split
    · omega
    · exact nib_pos _ _

/-- The sum of the first k lengths. -/
def adr (l : List Nat) : Nat → Nat
  | 0 => 0
  | k + 1 => adr l k + l.getD k 0
/-- One list of lengths lies below another one. -/
def LE (l m : List Nat) : Prop := l.length = m.length ∧ ∀ i, l.getD i 0 ≤ m.getD i 0
theorem LE.refl (l : List Nat) : LE l l := ⟨rfl, fun _ => Nat.le_refl _⟩
theorem LE.trans {l m n : List Nat} (h : LE l m) (k : LE m n) : LE l n := ⟨h.1.trans k.1, fun i => Nat.le_trans (h.2 i) (k.2 i)⟩
theorem LE.antisymm {l m : List Nat} (h : LE l m) (k : LE m l) : l = m := by
  apply List.ext_getElem h.1
  intro i h1 h2
  have a := h.2 i
  have b := k.2 i
  rw [List.getD_eq_getElem?_getD, List.getD_eq_getElem?_getD, List.getElem?_eq_getElem h1, List.getElem?_eq_getElem h2] at a b
  simp at a b
  omega
theorem adr_mono (l : List Nat) {a b : Nat} (h : a ≤ b) : adr l a ≤ adr l b := by
  induction b with
  | zero => obtain rfl : a = 0 := by omega
            exact Nat.le_refl _
  | succ b ih =>
    by_cases hab : a = b + 1
    · rw [hab]; exact Nat.le_refl _
    · have := ih (by omega)
      rw [adr]; omega
theorem adr_diff {l m : List Nat} (hl : LE l m) {a b : Nat} (h : a ≤ b) : (adr l b : Int) - adr l a ≤ (adr m b : Int) - adr m a := by
  induction b with
  | zero => obtain rfl : a = 0 := by omega
            simp
  | succ b ih =>
    by_cases hab : a = b + 1
    · rw [hab]; omega
    · have h1 := ih (by omega)
      have h2 := hl.2 b
      rw [adr, adr]
      omega
/-- The bytes that an operand 'the address of t less that of f' takes grow with the lengths. -/
theorem len_diff {l m : List Nat} (hl : LE l m) (t f : Nat) : lenV ((adr l t : Int) - adr l f) ≤ lenV ((adr m t : Int) - adr m f) := by
  rcases Nat.le_total f t with h | h
  · have h1 := adr_diff hl h
    have h2 := adr_mono l h
    exact lenV_up (by omega) h1
  · have h1 := adr_diff hl h
    have h2 := adr_mono l h
    exact lenV_down (by omega) (by omega)

/-- What a line's operand is: a number, or the difference of two lines' addresses. -/
abbrev Opd := Sum Int (Nat × Nat)
def valO (l : List Nat) : Opd → Int
  | .inl v => v
  | .inr (t, f) => (adr l t : Int) - adr l f
/-- How many bytes the lines need, with lengths. -/
def needL (os : List Opd) (l : List Nat) : List Nat := os.map fun o => lenV (valO l o)
theorem needL_len (os : List Opd) (l : List Nat) : (needL os l).length = os.length := by simp [needL]
theorem needL_get {os : List Opd} {i : Nat} {o : Opd} (l : List Nat) (h : os[i]? = some o) : (needL os l).getD i 0 = lenV (valO l o) := by
  rw [List.getD_eq_getElem?_getD]; simp [needL, h]
theorem needL_mono (os : List Opd) {l m : List Nat} (h : LE l m) : LE (needL os l) (needL os m) := by
  refine ⟨by rw [needL_len, needL_len], fun i => ?_⟩
  rcases Nat.lt_or_ge i os.length with hi | hi
  · have hg : os[i]? = some os[i] := List.getElem?_eq_getElem hi
    rw [needL_get l hg, needL_get m hg]
    cases os[i] with
    | inl v => exact Nat.le_refl _
    | inr p =>
      obtain ⟨t, f⟩ := p
      exact len_diff h t f
  · rw [List.getD_eq_getElem?_getD, List.getD_eq_getElem?_getD, List.getElem?_eq_none (by rw [needL_len]; exact hi), List.getElem?_eq_none (by rw [needL_len]; exact hi)]
    exact Nat.le_refl _
/-- Operands that stay words, whatever the lengths up to eight. -/
def Fit (os : List Opd) : Prop := os.length ≤ 4096 ∧ ∀ o ∈ os, match o with | .inl v => -2147483648 ≤ v ∧ v ≤ 2147483647 | .inr (t, f) => t ≤ os.length ∧ f ≤ os.length
theorem adr_le {l : List Nat} (h : ∀ i, l.getD i 0 ≤ 8) : ∀ k, adr l k ≤ 8 * k
  | 0 => Nat.le_refl _
  | k + 1 => by rw [adr]; have := adr_le h k; have := h k; omega
theorem needL_le {os : List Opd} (hf : Fit os) {l : List Nat} (h : ∀ i, l.getD i 0 ≤ 8) : ∀ i, (needL os l).getD i 0 ≤ 8 := by
  intro i
  rcases Nat.lt_or_ge i os.length with hi | hi
  · have hg : os[i]? = some os[i] := List.getElem?_eq_getElem hi
    rw [needL_get l hg]
    have h1 := hf.2 os[i] (List.getElem_mem hi)
    cases ho : os[i] with
    | inl v => rw [ho] at h1; exact lenV_le h1
    | inr p =>
      obtain ⟨t, f⟩ := p
      
      rw [ho] at h1
      simp only at h1
      have a := adr_le h t
      have b := adr_le h f
      have c := hf.1
      exact lenV_le (by show _ ∧ _; simp only [valO]; omega)
  · rw [List.getD_eq_getElem?_getD, List.getElem?_eq_none (by rw [needL_len]; exact hi)]
    simp
theorem needL_pos {os : List Opd} (l : List Nat) {i : Nat} (hi : i < os.length) : 1 ≤ (needL os l).getD i 0 := by
  rw [needL_get l (List.getElem?_eq_getElem hi)]; exact lenV_pos _
/-- The lengths by rounds, from one byte each. -/
def runL (os : List Opd) : Nat → List Nat → List Nat
  | 0, l => l
  | k + 1, l => if needL os l = l then l else runL os k (needL os l)
def ones (n : Nat) : List Nat := List.replicate n 1
theorem ones_get (n i : Nat) : (ones n).getD i 0 = if i < n then 1 else 0 := by
  rw [List.getD_eq_getElem?_getD, ones, List.getElem?_replicate]
  split <;> rfl
/-- The least lengths. -/
def fixL (os : List Opd) : List Nat := runL os (7 * os.length + 1) (ones os.length)
theorem adr_lt {l m : List Nat} (h : LE l m) (hne : l ≠ m) : adr l l.length < adr m m.length := by
  have h0 : ∀ k, adr l k ≤ adr m k := by
    intro k
    induction k with
    | zero => exact Nat.le_refl _
    | succ k ih => rw [adr, adr]; have := h.2 k; omega
  by_cases hx : ∃ i, i < l.length ∧ l.getD i 0 < m.getD i 0
  · obtain ⟨i, hi, hlt⟩ := hx
    have : ∀ k, i < k → adr l k < adr m k := by
      intro k
      induction k with
      | zero => intro h; omega
      | succ k ih =>
        intro hk
        rw [adr, adr]
        by_cases hik : i = k
        · subst hik; have := h0 i; omega
        · have := ih (by omega); have := h.2 k; omega
    rw [← h.1]
    exact this _ hi
  · exfalso
    apply hne
    apply h.antisymm
    refine ⟨h.1.symm, fun i => ?_⟩
    rcases Nat.lt_or_ge i l.length with hi | hi
    · exact Nat.le_of_not_lt fun hlt => hx ⟨i, hi, hlt⟩
    · have e1 : m.getD i 0 = 0 := by rw [List.getD_eq_getElem?_getD, List.getElem?_eq_none (by rw [← h.1]; exact hi)]; rfl
      rw [e1]; exact Nat.zero_le _
theorem ones_le {n : Nat} {l : List Nat} (hn : l.length = n) (h : ∀ i, i < n → 1 ≤ l.getD i 0) : LE (ones n) l := by
  refine ⟨by simp [ones, hn], fun i => ?_⟩
  rw [ones_get]
  split
  · exact h i (by assumption)
  · exact Nat.zero_le _
theorem runL_fix {os : List Opd} (hf : Fit os) : ∀ (k : Nat) (l : List Nat), l.length = os.length → LE l (needL os l) → (∀ i, l.getD i 0 ≤ 8) → 8 * os.length < adr l os.length + k →
    needL os (runL os k l) = runL os k l ∧ LE l (runL os k l) ∧ (∀ i, (runL os k l).getD i 0 ≤ 8)
  | 0, l, hl, hle, h8, hk => by
    have := adr_le h8 os.length
    omega
  | k + 1, l, hl, hle, h8, hk => by
    rw [runL]
    by_cases he : needL os l = l
    · rw [if_pos he]; exact ⟨he, LE.refl _, h8⟩
    · rw [if_neg he]
      have h1 := adr_lt hle (fun h => he h.symm)
      rw [needL_len, hl] at h1
      obtain ⟨a, b, c⟩ := runL_fix hf k (needL os l) (needL_len _ _) (needL_mono os hle) (needL_le hf h8) (by omega)
      exact ⟨a, hle.trans b, c⟩
theorem ones_need (os : List Opd) : LE (ones os.length) (needL os (ones os.length)) := ones_le (needL_len _ _) fun _ h => needL_pos _ h
theorem ones_8 (n i : Nat) : (ones n).getD i 0 ≤ 8 := by rw [ones_get]; split <;> omega
theorem adr_ones (n : Nat) : ∀ k, k ≤ n → adr (ones n) k = k
  | 0, _ => rfl
  | k + 1, h => by rw [adr, adr_ones n k (by omega), ones_get, if_pos (by omega)]
theorem fixL_fix {os : List Opd} (hf : Fit os) : needL os (fixL os) = fixL os ∧ LE (ones os.length) (fixL os) ∧ (∀ i, (fixL os).getD i 0 ≤ 8) :=
  runL_fix hf _ _ (by simp [ones]) (ones_need os) (ones_8 _) (by rw [adr_ones _ _ (Nat.le_refl _)]; omega)
theorem runL_least {os : List Opd} {m : List Nat} (hm : LE (needL os m) m) : ∀ (k : Nat) (l : List Nat), LE l m → LE (runL os k l) m
  | 0, l, h => h
  | k + 1, l, h => by
    rw [runL]
    split
    · exact h
    · exact runL_least hm k _ ((needL_mono os h).trans hm)
/-- No sufficient lengths are shorter anywhere. -/
theorem fixL_least {os : List Opd} {m : List Nat} (hm : LE (needL os m) m) : LE (fixL os) m :=
  runL_least hm _ _ (ones_le (by rw [← hm.1, needL_len]) fun i hi => Nat.le_trans (needL_pos m hi) (hm.2 i))
theorem fixL_len {os : List Opd} (hf : Fit os) : (fixL os).length = os.length := by rw [← (fixL_fix hf).1, needL_len]
/-- Lengths that lie below the least ones, and need no more, are the least ones. -/
theorem fixL_of {os : List Opd} {l : List Nat} (h1 : LE l (fixL os)) (h2 : LE (needL os l) l) : l = fixL os := h1.antisymm (fixL_least h2)
theorem fixL_one {os : List Opd} (_ : Fit os) {l : List Nat} (h : needL os l = l) : LE (fixL os) l := fixL_least (by rw [h]; exact LE.refl _)
end Go.Proofs.YtljeecocbcffcaaDoor

/- Lines of assembly in plain words: which are valid, their text, and how it is read. -/
namespace Go.Proofs.YtljeecocbcffcaaDoor
open Go.RowKit
set_option linter.unusedVariables false
set_option linter.unusedSimpArgs false

structure LineL where
  label : List UInt8
  fn : Nat
  arg : Int
  target : List UInt8
  frm : List UInt8
deriving DecidableEq
def letterB (c : UInt8) : Bool := (decide (97 ≤ c.toNat) && decide (c.toNat ≤ 122)) || (decide (65 ≤ c.toNat) && decide (c.toNat ≤ 90))
def otherB (c : UInt8) : Bool := (decide (48 ≤ c.toNat) && decide (c.toNat ≤ 57)) || c.toNat == 46
/-- A label's form. -/
def labelB (l : List UInt8) : Bool := match l with
  | [] => false
  | c :: r => letterB c && r.all (fun c => letterB c || otherB c) && decide ((c :: r).length ≤ 32)
def validB (x : LineL) : Bool :=
  (x.label.isEmpty || labelB x.label) &&
    (if x.target.isEmpty then x.frm.isEmpty && (findI (x.fn : Int) x.arg).isSome
     else labelB x.target && (x.frm.isEmpty || labelB x.frm) && x.arg == 0 && decide (x.fn < 15) && !(x.fn == 2) && !(x.fn == 6))
/-- The line with a label. -/
def atL (ls : List LineL) (n : List UInt8) : Option Nat := ls.findIdx? fun x => x.label == n
def okL (ls : List LineL) (i : Nat) (x : LineL) : Bool :=
  (x.label.isEmpty || atL ls x.label == some i) && (x.target.isEmpty || (atL ls x.target).isSome) && (x.frm.isEmpty || (atL ls x.frm).isSome)
/-- The error of lines: 0, 2 or 60. -/
def checkE (ls : List LineL) : Int := if ls.all validB then (if (ls.zipIdx.all fun p => okL ls p.2 p.1) then 0 else 60) else 2
/-- A line's operand. -/
def opdL (ls : List LineL) (i : Nat) (x : LineL) : Opd :=
  if x.target.isEmpty then .inl x.arg else .inr ((atL ls x.target).getD 0, if x.frm.isEmpty then i + 1 else (atL ls x.frm).getD 0)
def opds (ls : List LineL) : List Opd := ls.zipIdx.map fun p => opdL ls p.2 p.1
theorem opds_len (ls : List LineL) : (opds ls).length = ls.length := by simp [opds]
theorem opds_get {ls : List LineL} {i : Nat} {x : LineL} (h : ls[i]? = some x) : (opds ls)[i]? = some (opdL ls i x) := by
  simp [opds, List.getElem?_zipIdx, h]
theorem atL_lt {ls : List LineL} {n : List UInt8} {j : Nat} (h : atL ls n = some j) : j < ls.length := by
  unfold atL at h
  obtain ⟨hj, -⟩ := List.findIdx?_eq_some_iff_getElem.1 h
  exact hj
theorem atL_getD_le {ls : List LineL} (n : List UInt8) : (atL ls n).getD 0 ≤ ls.length := by
  cases h : atL ls n with
  | none => exact Nat.zero_le _
  | some j => exact Nat.le_of_lt (atL_lt h)
theorem opds_fit {ls : List LineL} (hn : ls.length ≤ 4096) (ha : ∀ x ∈ ls, is32 x.arg) : Fit (opds ls) := by
  refine ⟨by rw [opds_len]; exact hn, fun o ho => ?_⟩
  obtain ⟨i, hi, rfl⟩ := List.getElem_of_mem ho
  rw [opds_len] at hi
  have hg := opds_get (List.getElem?_eq_getElem hi)
  have e : (opds ls)[i]'(by rw [opds_len]; exact hi) = opdL ls i ls[i] := by
    rw [List.getElem?_eq_getElem (by rw [opds_len]; exact hi)] at hg
    exact Option.some.inj hg
  rw [e, opds_len]
  by_cases ht : ls[i].target.isEmpty = true
  · have e2 : opdL ls i ls[i] = .inl ls[i].arg := by unfold opdL; rw [if_pos ht]
    rw [e2]
    exact ha _ (List.getElem_mem hi)
  · have e2 : opdL ls i ls[i] = .inr ((atL ls ls[i].target).getD 0, if ls[i].frm.isEmpty then i + 1 else (atL ls ls[i].frm).getD 0) := by unfold opdL; rw [if_neg ht]
    rw [e2]
    refine ⟨atL_getD_le _, ?_⟩
    split
    · omega
    · exact atL_getD_le _
/-- The code of lines. -/
def codeL (ls : List LineL) : List UInt8 := ls.zipIdx.flatMap fun p => encI p.1.fn (valO (fixL (opds ls)) (opdL ls p.2 p.1))
/-- A line's text, without its end. -/
def tailT (x : LineL) : List UInt8 :=
  if x.fn = 15 then [] else if x.target.isEmpty then 32 :: textL x.arg false else if x.frm.isEmpty then 32 :: x.target else 32 :: (x.target ++ 45 :: x.frm)
def nameT (x : LineL) : List UInt8 := ((findI (x.fn : Int) x.arg).getD irow0).name
def oneT (x : LineL) : List UInt8 := (if x.label.isEmpty then [] else x.label ++ [58, 32]) ++ (nameT x ++ tailT x)
/-- The text of lines. -/
def textT (ls : List LineL) : List UInt8 := ls.flatMap fun x => oneT x ++ [10]
/-- Behind a line's label: the line that a text might be. -/
def parseA (lab t : List UInt8) : LineL :=
  let y := (namedI (t.takeWhile (· != 32))).getD irow0
  match t.dropWhile (· != 32) with
  | [] => ⟨lab, y.fn, y.arg, [], []⟩
  | _ :: o => match Lib.parseIntB 32 o with
    | .ok v => ⟨lab, y.fn, v, [], []⟩
    | _ => ⟨lab, y.fn, y.arg, o.takeWhile (· != 45), (o.dropWhile (· != 45)).tail⟩
/-- The line that a text might be, as the program reads it. -/
def parseP (l : List UInt8) : LineL := if (Lib.cut l [58, 32]).2.2 then parseA (Lib.cut l [58, 32]).1 (Lib.cut l [58, 32]).2.1 else parseA [] l
def numR (l : List UInt8) : Int :=
  let n := (l.take 11).foldl (fun (n : Nat) (c : UInt8) => if 48 ≤ c.toNat ∧ c.toNat ≤ 57 then 10 * n + (c.toNat - 48) else n) 0
  wrap32 (if l.head? = some 45 then -(n : Int) else (n : Int))
def parseB (lab t : List UInt8) : LineL :=
  let y := (namedI (t.takeWhile (· != 32))).getD irow0
  match t.dropWhile (· != 32) with
  | [] => ⟨lab, y.fn, y.arg, [], []⟩
  | _ :: o => if (match o with | [] => false | c :: _ => c == 45 || (decide (48 ≤ c.toNat) && decide (c.toNat ≤ 57))) then ⟨lab, y.fn, numR o, [], []⟩
    else ⟨lab, y.fn, y.arg, o.takeWhile (· != 45), (o.dropWhile (· != 45)).tail⟩
/-- The line that a text might be, as the reference reads it. -/
def parseR (l : List UInt8) : LineL :=
  if (l.takeWhile (· != 58)).length + 1 < l.length then parseB (l.takeWhile (· != 58)) (l.drop ((l.takeWhile (· != 58)).length + 2)) else parseB [] l
end Go.Proofs.YtljeecocbcffcaaDoor

/- What is written as a line is read as that line, by the program and by the reference. -/
namespace Go.Proofs.YtljeecocbcffcaaDoor
open Go.RowKit
set_option linter.unusedVariables false
set_option linter.unusedSimpArgs false

theorem letter_ne {c : UInt8} (h : letterB c = true) : c ≠ 58 ∧ c ≠ 32 ∧ c ≠ 45 ∧ c ≠ 10 ∧ ¬ (48 ≤ c.toNat ∧ c.toNat ≤ 57) ∧ c.toNat ≠ 43 := by
  simp only [letterB, Bool.or_eq_true, Bool.and_eq_true, decide_eq_true_eq] at h
  refine ⟨?_, ?_, ?_, ?_, by omega, by omega⟩ <;> (rintro rfl; revert h; decide)
theorem other_ne {c : UInt8} (h : otherB c = true) : c ≠ 58 ∧ c ≠ 32 ∧ c ≠ 45 ∧ c ≠ 10 := by
  simp only [otherB, Bool.or_eq_true, Bool.and_eq_true, decide_eq_true_eq, beq_iff_eq] at h
  refine ⟨?_, ?_, ?_, ?_⟩ <;> (rintro rfl; revert h; decide)
theorem label_chars {l : List UInt8} (h : labelB l = true) : ∀ c ∈ l, c ≠ 58 ∧ c ≠ 32 ∧ c ≠ 45 ∧ c ≠ 10 := by
  cases l with
  | nil => intro c hc; cases hc
  | cons a r =>
    simp only [labelB, Bool.and_eq_true, List.all_eq_true] at h
    intro c hc
    rcases List.mem_cons.1 hc with rfl | hc
    · have := letter_ne h.1.1; exact ⟨this.1, this.2.1, this.2.2.1, this.2.2.2.1⟩
    · rcases Bool.or_eq_true_iff.1 (h.1.2 c hc) with h1 | h1
      · have := letter_ne h1; exact ⟨this.1, this.2.1, this.2.2.1, this.2.2.2.1⟩
      · exact other_ne h1
theorem label_head {l : List UInt8} (h : labelB l = true) : ∃ c r, l = c :: r ∧ letterB c = true := by
  cases l with
  | nil => cases h
  | cons a r =>
    simp only [labelB, Bool.and_eq_true] at h
    exact ⟨a, r, rfl, h.1.1⟩
theorem label_ne {l : List UInt8} (h : labelB l = true) : l ≠ [] := by
  obtain ⟨c, r, rfl, -⟩ := label_head h
  simp
theorem low_ne {c : UInt8} (h : (97 ≤ c.toNat ∧ c.toNat ≤ 122) ∨ (48 ≤ c.toNat ∧ c.toNat ≤ 57)) : c ≠ 58 ∧ c ≠ 32 ∧ c ≠ 45 ∧ c ≠ 10 := by
  refine ⟨?_, ?_, ?_, ?_⟩ <;> (rintro rfl; revert h; decide)
theorem dec_chars (u : Nat) : ∀ c ∈ Lib.decDigits u, 48 ≤ c.toNat ∧ c.toNat ≤ 57 := by
  obtain ⟨N, _, _, g3⟩ := dec_N u
  rw [g3]
  intro c hc
  have : ∀ i, ∀ c ∈ digL 10 i u, 48 ≤ c.toNat ∧ c.toNat ≤ 57 := by
    intro i
    induction i with
    | zero => intro c hc; cases hc
    | succ i ih =>
      intro c hc
      rw [digL] at hc
      rcases List.mem_cons.1 hc with rfl | hc
      · have := dig_range (u / 10 ^ i % 10) (by omega); exact ⟨this.1, this.2.1⟩
      · exact ih c hc
  exact this _ c hc
theorem itoa_chars (v : Int) : ∀ c ∈ Lib.itoa v, c = 45 ∨ (48 ≤ c.toNat ∧ c.toNat ≤ 57) := by
  intro c hc
  by_cases h : v < 0
  · rw [itoa_neg' h] at hc
    rcases List.mem_cons.1 hc with rfl | hc
    · exact .inl rfl
    · exact .inr (dec_chars _ c hc)
  · rw [itoa_pos (by omega)] at hc
    exact .inr (dec_chars _ c hc)
theorem itoa_ne (v : Int) : ∀ c ∈ Lib.itoa v, c ≠ 58 ∧ c ≠ 10 ∧ c ≠ 32 := by
  intro c hc
  rcases itoa_chars v c hc with rfl | h
  · decide
  · refine ⟨?_, ?_, ?_⟩ <;> (rintro rfl; revert h; decide)

theorem idx2_no : ∀ l : List UInt8, (∀ c ∈ l, c ≠ 58) → Lib.index l [58, 32] = -1
  | [], _ => rfl
  | b :: l, h => by
    have ih := idx2_no l fun c hc => h c (by simp [hc])
    have hb : b ≠ 58 := h b (by simp)
    have e : ([58, 32] : List UInt8).isPrefixOf (b :: l) = false := by
      simp [List.isPrefixOf, Ne.symm hb]
    rw [Lib.index, e, ih]; rfl
theorem idx2_hit : ∀ (pre rest : List UInt8), (∀ c ∈ pre, c ≠ 58) → Lib.index (pre ++ 58 :: 32 :: rest) [58, 32] = pre.length
  | [], rest, _ => by
    have e : ([58, 32] : List UInt8).isPrefixOf (58 :: 32 :: rest) = true := by simp [List.isPrefixOf]
    rw [List.nil_append, Lib.index, e]; rfl
  | b :: pre, rest, h => by
    have ih := idx2_hit pre rest fun c hc => h c (by simp [hc])
    have hb : b ≠ 58 := h b (by simp)
    have e : ([58, 32] : List UInt8).isPrefixOf (b :: (pre ++ 58 :: 32 :: rest)) = false := by
      simp [List.isPrefixOf, Ne.symm hb]
    rw [List.cons_append, Lib.index, e, ih]
    have e2 : (((pre.length : Int)) == -1) = false := by rw [beq_eq_false_iff_ne]; omega
    rw [e2]
    simp
theorem cut2_no {l : List UInt8} (h : ∀ c ∈ l, c ≠ 58) : Lib.cut l [58, 32] = (l, [], false) := by
  unfold Lib.cut; rw [idx2_no l h]; rfl
theorem cut2_hit {pre : List UInt8} (rest : List UInt8) (h : ∀ c ∈ pre, c ≠ 58) : Lib.cut (pre ++ 58 :: 32 :: rest) [58, 32] = (pre, rest, true) := by
  unfold Lib.cut
  rw [idx2_hit pre rest h, if_pos (by omega)]
  have e : (pre ++ 58 :: 32 :: rest).drop (pre.length + 2) = rest := by
    rw [List.drop_append]; simp
  simp [e]
theorem tw_hit (c : UInt8) {l : List UInt8} (m : List UInt8) (h : ∀ d ∈ l, d ≠ c) : (l ++ c :: m).takeWhile (· != c) = l ∧ (l ++ c :: m).dropWhile (· != c) = c :: m := by
  induction l with
  | nil => simp
  | cons d l ih =>
    have hc : (d != c) = true := by simpa using h d (by simp)
    obtain ⟨h1, h2⟩ := ih fun e he => h e (by simp [he])
    simp [hc, h1, h2]
theorem tw_no (c : UInt8) {l : List UInt8} (h : ∀ d ∈ l, d ≠ c) : l.takeWhile (· != c) = l ∧ l.dropWhile (· != c) = [] := by
  induction l with
  | nil => simp
  | cons d l ih =>
    have hc : (d != c) = true := by simpa using h d (by simp)
    obtain ⟨h1, h2⟩ := ih fun e he => h e (by simp [he])
    simp [hc, h1, h2]
theorem findI_any : ∀ f : Nat, f < 15 → f ≠ 2 → f ≠ 6 → ∃ r, findI (f : Int) 0 = some r ∧ r ∈ tabF ++ tabO ∧ r.fn = f ∧ r.arg = 0 := by
  intro f h1 h2 h3
  have h : ∀ f : Nat, f < 15 → f ≠ 2 → f ≠ 6 → (findI (f : Int) 0).isSome = true := by decide
  obtain ⟨r, hr⟩ := Option.isSome_iff_exists.1 (h f h1 h2 h3)
  obtain ⟨hm, hc⟩ := findI_some hr
  rcases hc with ⟨e, _⟩ | ⟨_, e1, e2⟩
  · omega
  · exact ⟨r, hr, hm, by omega, e2⟩
theorem parse_letter {c : UInt8} (r : List UInt8) (h : letterB c = true) : ∀ v, Lib.parseIntB 32 (c :: r) ≠ .ok v := by
  intro v hv
  obtain ⟨-, -, h45, -, hd, h43⟩ := letter_ne h
  have h45' : c.toNat ≠ 45 := fun e => h45 (by apply UInt8.toNat_inj.1; rw [e]; rfl)
  rw [Lib.parseIntB_plain 32 c r h43 h45'] at hv
  unfold Lib.parseUintB at hv
  rw [if_neg (by simp), Lib.parseUintM, if_neg hd] at hv
  cases hv
/-- The parts of a valid line. -/
theorem valid_parts {x : LineL} (h : validB x = true) : (x.label = [] ∨ labelB x.label = true) ∧ ∃ r, findI (x.fn : Int) x.arg = some r ∧ r ∈ tabF ++ tabO ∧ r.fn = x.fn ∧
    ((x.target = [] ∧ x.frm = [] ∧ ((x.fn = 15 ∧ (r.arg : Int) = x.arg) ∨ (x.fn ≠ 15 ∧ r.arg = 0))) ∨
     (labelB x.target = true ∧ (x.frm = [] ∨ labelB x.frm = true) ∧ x.arg = 0 ∧ x.fn ≠ 15 ∧ r.arg = 0)) := by
  unfold validB at h
  rw [Bool.and_eq_true] at h
  obtain ⟨h1, h2⟩ := h
  refine ⟨by simpa [List.isEmpty_iff] using h1, ?_⟩
  by_cases ht : x.target = []
  · rw [if_pos (by simp [ht])] at h2
    simp only [Bool.and_eq_true, List.isEmpty_iff] at h2
    obtain ⟨r, hr⟩ := Option.isSome_iff_exists.1 h2.2
    obtain ⟨hm, hc⟩ := findI_some hr
    refine ⟨r, hr, hm, ?_, .inl ⟨ht, h2.1, ?_⟩⟩
    · rcases hc with ⟨e1, e2, _⟩ | ⟨_, e1, _⟩ <;> omega
    · rcases hc with ⟨e1, e2, e3⟩ | ⟨e0, e1, e2⟩
      · exact .inl ⟨by omega, e3⟩
      · exact .inr ⟨by omega, e2⟩
  · rw [if_neg (by simp [ht])] at h2
    simp only [Bool.and_eq_true, Bool.or_eq_true, List.isEmpty_iff, beq_iff_eq, decide_eq_true_eq, Bool.not_eq_true', beq_eq_false_iff_ne] at h2
    obtain ⟨⟨⟨⟨⟨a1, a2⟩, a3⟩, a4⟩, a5⟩, a6⟩ := h2
    obtain ⟨r, hr, hm, e1, e2⟩ := findI_any x.fn a4 a5 a6
    exact ⟨r, by rw [a3]; exact hr, hm, e1, .inr ⟨a1, a2, a3, by omega, e2⟩⟩
/-- What a line's text is behind its label. -/
theorem body_ne {x : LineL} (h : validB x = true) : ∀ c ∈ nameT x ++ tailT x, c ≠ 58 ∧ c ≠ 10 := by
  obtain ⟨-, r, hr, hm, -, hc⟩ := valid_parts h
  intro c hc'
  rcases List.mem_append.1 hc' with h1 | h1
  · unfold nameT at h1
    rw [hr] at h1
    have := low_ne (name_low r hm c h1)
    exact ⟨this.1, this.2.2.2⟩
  · unfold tailT at h1
    rcases hc with ⟨t1, t2, -⟩ | ⟨t1, t2, t3, t4, -⟩
    · split at h1
      · cases h1
      · rw [if_pos (by simp [t1])] at h1
        rcases List.mem_cons.1 h1 with rfl | h1
        · decide
        · have := itoa_ne x.arg c h1; exact ⟨this.1, this.2.1⟩
    · rw [if_neg t4, if_neg (by simp [label_ne t1])] at h1
      have hl : ∀ c ∈ x.target, c ≠ 58 ∧ c ≠ 10 := fun c hc => by have := label_chars t1 c hc; exact ⟨this.1, this.2.2.2⟩
      split at h1
      · rcases List.mem_cons.1 h1 with rfl | h1
        · decide
        · exact hl c h1
      · rename_i hf
        have hf' : labelB x.frm = true := by
          rcases t2 with h | h
          · rw [h] at hf; simp at hf
          · exact h
        rcases List.mem_cons.1 h1 with rfl | h1
        · decide
        · rcases List.mem_append.1 h1 with h1 | h1
          · exact hl c h1
          · rcases List.mem_cons.1 h1 with rfl | h1
            · decide
            · have := label_chars hf' c h1; exact ⟨this.1, this.2.2.2⟩
theorem name_sp {x : LineL} {r : IRow} (hr : findI (x.fn : Int) x.arg = some r) (hm : r ∈ tabF ++ tabO) : nameT x = r.name ∧ ∀ c ∈ r.name, c ≠ 32 := by
  refine ⟨by unfold nameT; rw [hr]; rfl, (row_ok hm).2.1⟩
theorem line_ext {x : LineL} {lab : List UInt8} {f : Nat} {a : Int} {t m : List UInt8} (h1 : lab = x.label) (h2 : f = x.fn) (h3 : a = x.arg) (h4 : t = x.target) (h5 : m = x.frm) : (⟨lab, f, a, t, m⟩ : LineL) = x := by
  subst h1 h2 h3 h4 h5; rfl
theorem parseA_one {x : LineL} (h : validB x = true) (ha : is32 x.arg) : parseA x.label (nameT x ++ tailT x) = x := by
  obtain ⟨-, r, hr, hm, hf, hc⟩ := valid_parts h
  obtain ⟨e1, e2⟩ := name_sp hr hm
  rw [e1]
  unfold tailT
  rcases hc with ⟨t1, t2, (⟨h15, e3⟩ | ⟨h15, e3⟩)⟩ | ⟨t1, t2, t3, h15, e3⟩
  · rw [if_pos h15, List.append_nil]
    obtain ⟨w1, w2⟩ := tw_no 32 e2
    unfold parseA
    simp only [w1, w2, named_of hm, Option.getD_some]
    exact line_ext rfl hf e3 t1.symm t2.symm
  · rw [if_neg h15, if_pos (by simp [t1])]
    obtain ⟨w1, w2⟩ := tw_hit 32 (textL x.arg false) e2
    unfold parseA
    have hp : Lib.parseIntB 32 (textL x.arg false) = .ok x.arg := parse_itoa x.arg ha
    simp only [w1, w2, named_of hm, Option.getD_some, hp]
    exact line_ext rfl hf rfl t1.symm t2.symm
  · rw [if_neg h15, if_neg (by simp [label_ne t1])]
    obtain ⟨c, q, hq, hl⟩ := label_head t1
    have key : ∀ o, (o = x.target ∨ ∃ s, o = x.target ++ 45 :: s) → ∀ v, Lib.parseIntB 32 o ≠ .ok v := by
      rintro o (rfl | ⟨s, rfl⟩)
      · rw [hq]; exact parse_letter q hl
      · rw [hq, List.cons_append]; exact parse_letter _ hl
    have h45 : ∀ d ∈ x.target, d ≠ 45 := fun d hd => (label_chars t1 d hd).2.2.1
    split
    · rename_i hfe
      obtain ⟨w1, w2⟩ := tw_hit 32 x.target e2
      obtain ⟨w3, w4⟩ := tw_no 45 h45
      have hk := key x.target (.inl rfl)
      unfold parseA
      simp only [w1, w2, named_of hm, Option.getD_some]
      rw [w3, w4]
      exact line_ext rfl hf (by rw [t3, e3]; rfl) rfl (List.isEmpty_iff.1 hfe).symm
    · obtain ⟨w1, w2⟩ := tw_hit 32 (x.target ++ 45 :: x.frm) e2
      obtain ⟨w3, w4⟩ := tw_hit 45 x.frm h45
      have hk := key _ (.inr ⟨x.frm, rfl⟩)
      unfold parseA
      simp only [w1, w2, named_of hm, Option.getD_some]
      rw [w3, w4]
      exact line_ext rfl hf (by rw [t3, e3]; rfl) rfl rfl
theorem parseP_no {l : List UInt8} (h : Lib.cut l [58, 32] = (l, [], false)) : parseP l = parseA [] l := by unfold parseP; rw [h]; rfl
theorem parseP_hit {l pre rest : List UInt8} (h : Lib.cut l [58, 32] = (pre, rest, true)) : parseP l = parseA pre rest := by unfold parseP; rw [h]; rfl
theorem oneT_no {x : LineL} (h : x.label = []) : oneT x = nameT x ++ tailT x := by
  unfold oneT; rw [if_pos (by rw [h]; rfl)]; rfl
theorem oneT_lab {x : LineL} (h : x.label ≠ []) : oneT x = x.label ++ 58 :: 32 :: (nameT x ++ tailT x) := by
  unfold oneT
  rw [if_neg (fun e => h (List.isEmpty_iff.1 e))]
  simp
theorem parseP_one {x : LineL} (h : validB x = true) (ha : is32 x.arg) : parseP (oneT x) = x := by
  have hb := body_ne h
  obtain ⟨hl, -⟩ := valid_parts h
  by_cases he : x.label = []
  · rw [oneT_no he, parseP_no (cut2_no fun c hc => (hb c hc).1)]
    have := parseA_one h ha
    rwa [he] at this
  · have hlab : labelB x.label = true := by rcases hl with h | h; exact absurd h he; exact h
    rw [oneT_lab he, parseP_hit (cut2_hit _ fun c hc => (label_chars hlab c hc).1)]
    exact parseA_one h ha
end Go.Proofs.YtljeecocbcffcaaDoor

/- The reference's reading of a line, and the reading of a whole text. -/
namespace Go.Proofs.YtljeecocbcffcaaDoor
open Go.RowKit
set_option linter.unusedVariables false
set_option linter.unusedSimpArgs false

theorem num_step (c : UInt8) (n : Nat) : (if 48 ≤ c.toNat ∧ c.toNat ≤ 57 then 10 * n + (c.toNat - 48) else n) = stepR 10 c n 10 := by
  unfold stepR hit isHexB hv
  by_cases h : 48 ≤ c.toNat ∧ c.toNat ≤ 57
  · have e : (decide (48 ≤ c.toNat) && decide (c.toNat ≤ 57) || decide (65 ≤ c.toNat) && decide (c.toNat ≤ 70)) = true := by simp [h]
    rw [if_pos h, if_pos e, if_pos h.2, if_pos (by omega)]
  · rw [if_neg h]
    by_cases e : (decide (48 ≤ c.toNat) && decide (c.toNat ≤ 57) || decide (65 ≤ c.toNat) && decide (c.toNat ≤ 70)) = true
    · have e2 : 65 ≤ c.toNat ∧ c.toNat ≤ 70 := by
        simp only [Bool.or_eq_true, Bool.and_eq_true, decide_eq_true_eq] at e
        rcases e with e | e
        · exact absurd e h
        · exact e
      have e3 : ¬ c.toNat ≤ 57 := by omega
      rw [if_pos e, if_neg e3, if_neg (by omega)]
    · rw [if_neg e, if_neg (by omega)]
theorem numR_val (l : List UInt8) (h : l.length ≤ 11) : numR l = wrap32 (if l.head? = some 45 then -(valR 10 l : Int) else (valR 10 l : Int)) := by
  unfold numR valR
  rw [List.take_of_length_le h]
  have e : (fun (n : Nat) (c : UInt8) => if 48 ≤ c.toNat ∧ c.toNat ≤ 57 then 10 * n + (c.toNat - 48) else n) = fun n c => stepR 10 c n 10 := by
    funext n c; exact num_step c n
  simp only [e]
theorem valR_minus (l : List UInt8) : valR 10 (45 :: l) = valR 10 l := by
  have e : stepR 10 45 0 10 = 0 := by decide
  simp only [valR, List.foldl_cons, e]
theorem wrap32_id {v : Int} (h : is32 v) : wrap32 v = v := by
  obtain ⟨h1, h2⟩ := h
  unfold wrap32; omega
theorem numR_text {v : Int} (h : is32 v) : numR (textL v false) = v := by
  have hl := (textL_len (g := false) h).2
  rw [numR_val _ hl]
  have e : textL v false = Lib.itoa v := rfl
  rw [e]
  obtain ⟨c, r, hc, -, -, (⟨h1, rfl, rfl⟩ | ⟨h1, h2⟩)⟩ := itoa_head v
  · rw [hc, valR_minus, valR_dec]
    have e2 : (45 :: Lib.decDigits v.natAbs).head? = some 45 := rfl
    rw [if_pos e2]
    have e3 : -((v.natAbs : Nat) : Int) = v := by omega
    rw [e3, wrap32_id h]
  · have e2 : ¬ (Lib.itoa v).head? = some 45 := by
      rw [hc]
      simp only [List.head?_cons, Option.some.injEq]
      rintro rfl
      exact h2 rfl
    rw [if_neg e2, itoa_pos h1, valR_dec]
    have e3 : ((v.toNat : Nat) : Int) = v := by omega
    rw [e3, wrap32_id h]
def numHead (o : List UInt8) : Bool := match o with | [] => false | c :: _ => c == 45 || (decide (48 ≤ c.toNat) && decide (c.toNat ≤ 57))
theorem numHead_text (v : Int) : numHead (textL v false) = true := by
  have e : textL v false = Lib.itoa v := rfl
  obtain ⟨c, r, hc, -⟩ := itoa_head v
  rw [e, hc]
  have := itoa_chars v c (by rw [hc]; simp)
  simp only [numHead, Bool.or_eq_true, beq_iff_eq, Bool.and_eq_true, decide_eq_true_eq]
  exact this
theorem numHead_letter {c : UInt8} (r : List UInt8) (h : letterB c = true) : numHead (c :: r) = false := by
  obtain ⟨-, -, h45, -, hd, -⟩ := letter_ne h
  simp only [numHead, Bool.or_eq_false_iff, beq_eq_false_iff_ne, Bool.and_eq_false_iff, decide_eq_false_iff_not]
  exact ⟨h45, by omega⟩
theorem parseB_eq (lab t : List UInt8) : parseB lab t = match t.dropWhile (· != 32) with
    | [] => ⟨lab, ((namedI (t.takeWhile (· != 32))).getD irow0).fn, ((namedI (t.takeWhile (· != 32))).getD irow0).arg, [], []⟩
    | _ :: o => if numHead o = true then ⟨lab, ((namedI (t.takeWhile (· != 32))).getD irow0).fn, numR o, [], []⟩
      else ⟨lab, ((namedI (t.takeWhile (· != 32))).getD irow0).fn, ((namedI (t.takeWhile (· != 32))).getD irow0).arg, o.takeWhile (· != 45), (o.dropWhile (· != 45)).tail⟩ := rfl
theorem parseB_one {x : LineL} (h : validB x = true) (ha : is32 x.arg) : parseB x.label (nameT x ++ tailT x) = x := by
  obtain ⟨-, r, hr, hm, hf, hc⟩ := valid_parts h
  obtain ⟨e1, e2⟩ := name_sp hr hm
  rw [e1]
  unfold tailT
  rcases hc with ⟨t1, t2, (⟨h15, e3⟩ | ⟨h15, e3⟩)⟩ | ⟨t1, t2, t3, h15, e3⟩
  · rw [if_pos h15, List.append_nil]
    obtain ⟨w1, w2⟩ := tw_no 32 e2
    rw [parseB_eq]
    simp only [w1, w2, named_of hm, Option.getD_some]
    exact line_ext rfl hf e3 t1.symm t2.symm
  · rw [if_neg h15, if_pos (by simp [t1])]
    obtain ⟨w1, w2⟩ := tw_hit 32 (textL x.arg false) e2
    rw [parseB_eq]
    simp only [w1, w2, named_of hm, Option.getD_some, numHead_text, if_true]
    exact line_ext rfl hf (numR_text ha) t1.symm t2.symm
  · rw [if_neg h15, if_neg (by simp [label_ne t1])]
    obtain ⟨c, q, hq, hl⟩ := label_head t1
    have h45 : ∀ d ∈ x.target, d ≠ 45 := fun d hd => (label_chars t1 d hd).2.2.1
    split
    · rename_i hfe
      obtain ⟨w1, w2⟩ := tw_hit 32 x.target e2
      obtain ⟨w3, w4⟩ := tw_no 45 h45
      have hk : numHead x.target = false := by rw [hq]; exact numHead_letter q hl
      rw [parseB_eq]
      simp only [w1, w2, named_of hm, Option.getD_some, hk, Bool.false_eq_true, if_false]
      rw [w3, w4]
      exact line_ext rfl hf (by rw [t3, e3]; rfl) rfl (List.isEmpty_iff.1 hfe).symm
    · obtain ⟨w1, w2⟩ := tw_hit 32 (x.target ++ 45 :: x.frm) e2
      obtain ⟨w3, w4⟩ := tw_hit 45 x.frm h45
      have hk : numHead (x.target ++ 45 :: x.frm) = false := by rw [hq, List.cons_append]; exact numHead_letter _ hl
      rw [parseB_eq]
      simp only [w1, w2, named_of hm, Option.getD_some, hk, Bool.false_eq_true, if_false]
      rw [w3, w4]
      exact line_ext rfl hf (by rw [t3, e3]; rfl) rfl rfl
theorem parseR_one {x : LineL} (h : validB x = true) (ha : is32 x.arg) : parseR (oneT x) = x := by
  have hb := body_ne h
  obtain ⟨hl, -⟩ := valid_parts h
  unfold parseR
  by_cases he : x.label = []
  · rw [oneT_no he]
    obtain ⟨w1, -⟩ := tw_no 58 fun c hc => (hb c hc).1
    rw [w1, if_neg (by omega)]
    have := parseB_one h ha
    rwa [he] at this
  · have hlab : labelB x.label = true := by rcases hl with h | h; exact absurd h he; exact h
    rw [oneT_lab he]
    obtain ⟨w1, -⟩ := tw_hit 58 (32 :: (nameT x ++ tailT x)) fun c hc => (label_chars hlab c hc).1
    rw [w1, if_pos (by simp only [List.length_append, List.length_cons]; omega)]
    have e2 : (x.label ++ 58 :: 32 :: (nameT x ++ tailT x)).drop (x.label.length + 2) = nameT x ++ tailT x := by
      rw [List.drop_append]; simp
    rw [e2]
    exact parseB_one h ha
theorem row_is32 (o : Option IRow) (h : ∀ r, o = some r → r ∈ tabF ++ tabO) : is32 ((o.getD irow0).arg : Int) := by
  cases o with
  | none => exact ⟨by decide, by decide⟩
  | some r =>
    have hm := h r rfl
    have : r.arg < 256 := by
      rcases List.mem_append.1 hm with h1 | h1
      · have := (tabF_ok r h1).2.1; omega
      · exact (tabO_ok r h1).2.1
    show is32 (r.arg : Int)
    unfold is32; omega
theorem named_mem (n : List UInt8) : ∀ r, namedI n = some r → r ∈ tabF ++ tabO := fun _ h => (named_some h).1
theorem parseA_is32 (lab t : List UInt8) : is32 (parseA lab t).arg := by
  unfold parseA
  simp only
  split
  · exact row_is32 _ (named_mem _)
  · split
    · rename_i v hv
      have h1 := Lib.parseIntB_bounds hv
      show is32 v
      unfold is32
      simp at h1
      omega
    · exact row_is32 _ (named_mem _)
theorem parseP_is32 (l : List UInt8) : is32 (parseP l).arg := by
  unfold parseP; split <;> exact parseA_is32 _ _
theorem wrap32_is32 (v : Int) : is32 (wrap32 v) := by unfold is32 wrap32; omega
theorem parseB_is32 (lab t : List UInt8) : is32 (parseB lab t).arg := by
  rw [parseB_eq]
  split
  · exact row_is32 _ (named_mem _)
  · split
    · exact wrap32_is32 _
    · exact row_is32 _ (named_mem _)
theorem parseR_is32 (l : List UInt8) : is32 (parseR l).arg := by
  unfold parseR; split <;> exact parseB_is32 _ _
/-- The line whose text this is. -/
def lineP (t : List UInt8) : Option LineL := if validB (parseP t) && oneT (parseP t) == t then some (parseP t) else none
theorem lineP_some {t : List UInt8} {x : LineL} (h : lineP t = some x) : validB x = true ∧ oneT x = t ∧ is32 x.arg := by
  unfold lineP at h
  split at h
  · rename_i hc
    obtain rfl := Option.some.inj h
    simp only [Bool.and_eq_true, beq_iff_eq] at hc
    exact ⟨hc.1, hc.2, parseP_is32 t⟩
  · cases h
theorem lineP_one {x : LineL} (h : validB x = true) (ha : is32 x.arg) : lineP (oneT x) = some x := by
  unfold lineP
  rw [parseP_one h ha, h]
  simp
theorem lineR_eq (t : List UInt8) : (if validB (parseR t) && oneT (parseR t) == t then some (parseR t) else none) = lineP t := by
  split
  · rename_i hc
    simp only [Bool.and_eq_true, beq_iff_eq] at hc
    rw [← lineP_one hc.1 (parseR_is32 t), hc.2]
  · rename_i hc
    cases h : lineP t with
    | none => rfl
    | some x =>
      obtain ⟨h1, h2, h3⟩ := lineP_some h
      exfalso
      apply hc
      rw [← h2, parseR_one h1 h3, h1]
      simp
/-- The lines whose text this is, or the number of the first one that is none. -/
def readT : Nat → List UInt8 → List LineL → Nat → List LineL × Nat × Int
  | 0, _, acc, _ => (acc, 0, 0)
  | f + 1, s, acc, n =>
    match s with
    | [] => (acc, 0, 0)
    | b :: s' =>
      match (b :: s').dropWhile (· != 10) with
      | [] => ([], n + 1, 5)
      | _ :: rest =>
        match lineP ((b :: s').takeWhile (· != 10)) with
        | none => ([], n + 1, 5)
        | some x => readT f rest (acc ++ [x]) (n + 1)
theorem oneT_ne {x : LineL} (h : validB x = true) : ∀ c ∈ oneT x, c ≠ 10 := by
  intro c hc
  unfold oneT at hc
  rcases List.mem_append.1 hc with h1 | h1
  · split at h1
    · cases h1
    · rename_i he
      obtain ⟨hl, -⟩ := valid_parts h
      have hlab : labelB x.label = true := by
        rcases hl with h | h
        · rw [h] at he; simp at he
        · exact h
      rcases List.mem_append.1 h1 with h1 | h1
      · exact (label_chars hlab c h1).2.2.2
      · simp only [List.mem_cons, List.not_mem_nil, or_false] at h1
        rcases h1 with rfl | rfl <;> decide
  · exact (body_ne h c h1).2
theorem readT_text : ∀ (ls : List LineL) (f : Nat) (acc : List LineL) (n : Nat), (∀ x ∈ ls, validB x = true ∧ is32 x.arg) → ls.length < f → readT f (textT ls) acc n = (acc ++ ls, 0, 0)
  | [], f + 1, acc, n, _, _ => by simp [textT, readT]
  | x :: ls, f + 1, acc, n, h, hf => by
    obtain ⟨hx, ha⟩ := h x (by simp)
    have e : textT (x :: ls) = oneT x ++ 10 :: textT ls := by simp [textT]
    obtain ⟨w1, w2⟩ := tw_hit 10 (textT ls) (oneT_ne hx)
    have ih := readT_text ls f (acc ++ [x]) (n + 1) (fun y hy => h y (by simp [hy])) (by simp at hf; omega)
    rw [e]
    generalize hs : oneT x ++ 10 :: textT ls = s at *
    cases s with
    | nil => simp at hs
    | cons b s' =>
      rw [readT]
      simp only [w1, w2, lineP_one hx ha]
      rw [ih]
      simp
end Go.Proofs.YtljeecocbcffcaaDoor

/- Read and Text, of the program and of the reference, walked. -/
namespace Go.Proofs.YtljeecocbcffcaaDoor
open Go.RowKit
set_option linter.unusedVariables false
set_option linter.unusedSimpArgs false

theorem str_append (a b : List UInt8) : strB a ++ strB b = strB (a ++ b) := by
  apply ByteArray.ext
  simp [strB, ByteArray.data_append]
theorem str_ne {S T : ByteArray} (h : ¬ S = T) : (S.toList == T.toList) = false := by
  rw [ByteArray.toList_eq, ByteArray.toList_eq, beq_eq_false_iff_ne]
  intro h2
  exact h (ByteArray.ext (Array.toList_inj.1 h2))
theorem strB_of (S : ByteArray) : strB S.data.toList = S := rfl

/-- Read's answer. -/
noncomputable def readV (l : List UInt8) : Value := .tuple #[.int .i32 (readF l).1, .int .i64 (readF l).2]
theorem rr_eq {l : List UInt8} {v e : Int} (h : readF l = (v, e)) : Ending.returned (.tuple #[.int .i32 v, .int .i64 e]) = .returned (readV l) := by rw [readV, h]

/-- A string known by its first byte. -/
theorem str_parts {S : ByteArray} {c : UInt8} {r : List UInt8} (hS : S.data.toList = c :: r) : S.size = r.length + 1 ∧ S.data[0]? = some c ∧ (S.extract 1 S.size).data.toList = r := by
  have hl : S.size = r.length + 1 := by
    have : S.data.toList.length = S.size := by rw [Array.length_toList]; rfl
    rw [hS] at this; simp at this; omega
  refine ⟨hl, ?_, ?_⟩
  · rw [← Array.getElem?_toList, hS]; rfl
  · simp [ByteArray.data_extract, hS, hl]
theorem str_first {S : ByteArray} {c : UInt8} (h : S.data[0]? = some c) (h0 : 0 < S.size) : S[0] = c := by
  rw [ByteArray.getElem_eq_getElem_data]
  have h1 : S.data[0]? = some S.data[0] := Array.getElem?_eq_getElem h0
  rw [h1] at h
  exact Option.some.inj h
theorem str_size (S : ByteArray) : S.data.toList.length = S.size := by rw [Array.length_toList]; rfl

def HexNo (w : World) (e : Ending) (w' : World) : Prop := (∃ V : Int, e = .returned (.tuple #[.int .u32 V, .bool false])) ∧ Below w.heap.size w w'
/-- ParseInt, as Read meets it. -/
theorem parse_ok (S : ByteArray) (v : Int) (w : World) (hs : S.size ≤ 281474976710656) (h : Lib.parseIntB 32 S.data.toList = .ok v) :
    Calls Tryd.prog 68 #[.string S, .int .i64 10, .int .i64 32] w (RetV (.tuple #[.int .i64 v, .nilIface]) w) := by
  refine (Any.strconv_ParseInt_10_at32_ok Tryd.laysC174 S (by omega) v h w).mono ?_
  rintro e w' ⟨rfl, rfl | ⟨t, rfl⟩⟩
  · exact ⟨rfl, Below.refl _ _⟩
  · exact ⟨rfl, Lib.bytesWorld_below _ _ _⟩
def ParseNo (w : World) (e : Ending) (w' : World) : Prop := (∃ (V : Int) (N : Nat), e = .returned (.tuple #[.int .i64 V, .iface 152 (.pointer (some ⟨N, 0, none⟩))])) ∧ Below w.heap.size w w'
theorem parse_no (B : Nat) (S : ByteArray) (w : World) (hs : S.size ≤ 281474976710656) (hL : Laid B w) (h : ∀ v, Lib.parseIntB 32 S.data.toList ≠ .ok v) :
    Calls Tryd.prog 68 #[.string S, .int .i64 10, .int .i64 32] w (ParseNo w) := by
  obtain ⟨tp, p, tq, q, hL⟩ := hL
  obtain ⟨h1, h2, -⟩ := hL w (Below.refl _ _)
  rcases hp : Lib.parseIntB 32 S.data.toList with v | _ | _
  · exact absurd hp (h v)
  · first
    | (refine (Any.strconv_ParseInt_10_at32_syntax_var Tryd.laysC174 S hs hp tp p w h1).mono ?_
       rintro e w' ⟨N, rfl, -, -, hb⟩
       exact ⟨⟨_, N, rfl⟩, hb⟩)
    | (refine (Any.strconv_ParseInt_10_at32_range_var Tryd.laysC174 S hs hp tq q w h2).mono ?_
       rintro e w' ⟨N, rfl, -, -, hb⟩
       exact ⟨⟨_, N, rfl⟩, hb⟩)
  · first
    | (refine (Any.strconv_ParseInt_10_at32_range_var Tryd.laysC174 S hs hp tq q w h2).mono ?_
       rintro e w' ⟨N, rfl, -, -, hb⟩
       exact ⟨⟨_, N, rfl⟩, hb⟩)
    | (refine (Any.strconv_ParseInt_10_at32_syntax_var Tryd.laysC174 S hs hp tp p w h1).mono ?_
       rintro e w' ⟨N, rfl, -, -, hb⟩
       exact ⟨⟨_, N, rfl⟩, hb⟩)

/-- Not a hexadecimal text. -/
def NotHex (S : ByteArray) : Prop := ∀ c r, S.data.toList = c :: r → c ≠ 35
theorem valR_bound (b : Nat) (hb : b ≤ 16) (l : List UInt8) (h : l.length ≤ 11) : valR b l < 17592186044416 := by
  have h1 := valR_lt b hb l
  have h2 : (16 : Nat) ^ l.length ≤ 16 ^ 11 := Nat.pow_le_pow_right (by decide) h
  have e : (16 : Nat) ^ 11 = 17592186044416 := by decide
  omega
end Go.Proofs.YtljeecocbcffcaaDoor
