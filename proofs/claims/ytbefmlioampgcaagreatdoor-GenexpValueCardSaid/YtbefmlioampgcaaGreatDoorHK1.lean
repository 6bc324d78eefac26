/- Texts that belong together, joined: what each one holds is told ahead of it. -/
import Derived.Test.YtbefmlioampgcaaGreatDoorRows
import Derived.WalkKit
import Derived.WalkSpells
import Derived.WalkLawsBesides
import Derived.Maps.AppendAt
import Derived.Deep.AppendLies
import Derived.Deep.Draws
import Derived.Deep.OwnRows
import Derived.Deep.QuietTactic
import Derived.BigQuiet
import Derived.StillTailTactics
import Derived.RegionTactic
import Derived.Deep.RegionHeld3
import Derived.Deep.DeepCutAuto
import Derived.Deep.CutBlock
import Derived.OwnWalk
import Derived.Lib.Hide
import Derived.Laws.MakeOwn
import Derived.ProofKit
import Derived.SizedLaws
import Derived.DataShut
import Derived.RangeFuncNested
import Derived.RangeFuncBound
import Derived.RangeFuncCalls
import Derived.RangeFuncLeaves
import Derived.RangeFuncFrom
import Derived.Shelf.Abstract
import Derived.Shelf.RegionOpen
import Derived.OwnWalkIn
import Derived.TacticsInMore
import Derived.LoopNIn
import Derived.LoopIn
set_option linter.unusedVariables false
set_option linter.unusedSimpArgs false
/- Plain lemmas on memory that every text of this seat uses: a slice that reads as a list, a block known whole, appends, frames behind draws. -/
namespace Go.Proofs.YtbefmlioampgcaaGreatDoor
open Go.RowKit
set_option linter.unusedVariables false
set_option linter.unusedSimpArgs false
set_option linter.unusedVariables false
theorem block_of_add (a : Addr) (n : Nat) : (a.add n).block = a.block := by unfold Addr.add; split <;> rfl
theorem add_of_add (a : Addr) (i j : Nat) : (a.add i).add j = a.add (i + j) := by
  unfold Addr.add
  by_cases hi : i = 0 <;> by_cases hj : j = 0 <;> simp [hi, hj, Nat.add_assoc]

def Reads (w : World) (B size : Nat) (A : Option Addr) (n : Nat) (xs : List Value) : Prop :=
  xs.length = n * size ∧ (0 < n → ∃ ad, A = some ad ∧ ad.block < B ∧ ∀ j u, xs[j]? = some u → w.cell? (ad.add j) = some u)

section
variable {w w' : World} {B B' size n : Nat} {A : Option Addr} {xs : List Value}
theorem Reads.none_ : Reads w B size A 0 [] := ⟨by simp, fun h => absurd h (by omega)⟩
theorem Reads.at_ {k : Nat} (h : Reads w B 1 A n xs) (hk : k < n) : ∃ ad u, A = some ad ∧ ad.block < B ∧ xs[k]? = some u ∧ w.cell? (ad.add k) = some u := by
  obtain ⟨ad, e, hb, hc⟩ := h.2 (by omega)
  have hl : k < xs.length := by have := h.1; omega
  exact ⟨ad, xs[k], e, hb, List.getElem?_eq_getElem hl, hc k _ (List.getElem?_eq_getElem hl)⟩
theorem Reads.keep (h : Reads w B size A n xs) (hk : ∀ p : Addr, p.block < B → w'.cell? p = w.cell? p) : Reads w' B size A n xs :=
  ⟨h.1, fun hn => by
    obtain ⟨ad, e, hb, hc⟩ := h.2 hn
    exact ⟨ad, e, hb, fun j u hu => (hk _ (by rw [block_of_add]; exact hb)).trans (hc j u hu)⟩⟩
theorem Reads.more (h : Reads w B size A n xs) (hB : B ≤ B') : Reads w B' size A n xs :=
  ⟨h.1, fun hn => by
    obtain ⟨ad, e, hb, hc⟩ := h.2 hn
    exact ⟨ad, e, by omega, hc⟩⟩
theorem Reads.below (h : Reads w B size A n xs) (hb : Below B w w') : Reads w' B size A n xs := h.keep fun _ hp => hb.cell hp
theorem Reads.drew (h : Reads w B size A n xs) : Reads w.drew B size A n xs := h
theorem Reads.drewN (h : Reads w B size A n xs) (k : Nat) : Reads (w.drewN k) B size A n xs := h
theorem Reads.alloc (h : Reads w B size A n xs) (hB : B ≤ w.heap.size) (o : Obj) : Reads (w.alloc o) B size A n xs := h.keep fun p hp => World.cell?_alloc_lt w o p (by omega)
theorem Reads.setCell (h : Reads w B size A n xs) {p : Addr} (hB : B ≤ p.block) (u : Value) : Reads (w.setCell p u) B size A n xs :=
  h.keep fun q hq => World.cell?_setCell_other w p q u (fun e => by subst e; omega)
theorem Reads.grown (h : Reads w B size A n xs) {row : Option Nat} (hg : w.grownBy w' row) (hB : B ≤ w.heap.size) (hr : ∀ g, row = some g → B ≤ g) : Reads w' B size A n xs :=
  h.keep fun p hp => World.cell?_of_block (hg.block p.block (by omega) (fun e => by have := hr _ e.symm; omega))
theorem Reads.cut (h : Reads w B size A n xs) {k cap : Nat} (hk : k ≤ n) (hc : n ≤ cap) :
    Reads w B size (if cap = k then A else A.map (·.add (k * size))) (n - k) (xs.drop (k * size)) := by
  refine ⟨by rw [List.length_drop, h.1, Nat.sub_mul], fun hn => ?_⟩
  obtain ⟨ad, rfl, hb, hcell⟩ := h.2 (by omega)
  rw [if_neg (by omega)]
  refine ⟨ad.add (k * size), rfl, by rw [block_of_add]; exact hb, fun j u hu => ?_⟩
  rw [add_of_add]
  exact hcell _ u (by rw [← hu, List.getElem?_drop])
theorem Reads.of_own {base : Nat} {e : TypeId} {c : Nat} (h : w.ownsRow base e size (.slice A n c) n xs) : Reads w w.heap.size size A n xs := by
  refine ⟨h.1, fun hn => ?_⟩
  obtain ⟨g, cap, hv, _, hlt⟩ := h.form hn
  have hA : A = some ⟨g, 0, none⟩ := by injection hv
  subst hA
  exact ⟨_, rfl, hlt, h.cells (g := g) rfl⟩
end
def Blk (w : World) (g : Nat) (t : TypeId) (cs : Array Value) : Prop := w.heap[g]? = some (.cells cs t (0, 0))

section
variable {w w' : World} {g : Nat} {t : TypeId} {cs : Array Value}
theorem Blk.lt (h : Blk w g t cs) : g < w.heap.size := by
  rcases Nat.lt_or_ge g w.heap.size with hlt | hge
  · exact hlt
  · unfold Blk at h; rw [Array.getElem?_eq_none hge] at h; cases h
theorem Blk.cell (h : Blk w g t cs) (i : Nat) : w.cell? ⟨g, i, none⟩ = cs[i]? := cell_of_row w g i cs t (0, 0) h
theorem Blk.frozen (h : Blk w g t cs) (i : Nat) : w.frozen? ⟨g, i, none⟩ = false := by
  unfold Blk at h
  simp [World.frozen?, h]
theorem Blk.new (w : World) (t : TypeId) (cs : Array Value) : Blk (w.alloc (.cells cs t)) w.heap.size t cs := heap_alloc_new w _
theorem Blk.drew (h : Blk w g t cs) : Blk w.drew g t cs := h
theorem Blk.drewN (h : Blk w g t cs) (n : Nat) : Blk (w.drewN n) g t cs := h
theorem Blk.alloc (h : Blk w g t cs) (o : Obj) : Blk (w.alloc o) g t cs := (Below.heap_alloc w o g h.lt).trans h
theorem Blk.set_ (h : Blk w g t cs) (i : Nat) (u : Value) : Blk (w.setCell ⟨g, i, none⟩ u) g t (cs.setIfInBounds i u) := by
  unfold Blk at h ⊢
  simp [World.setCell, Array.getElem?_modify, h]
theorem Blk.far (h : Blk w g t cs) {p : Addr} (hp : g ≠ p.block) (u : Value) : Blk (w.setCell p u) g t cs := (Below.heap_setCell w p u g hp).trans h
theorem Blk.below {B : Nat} (h : Blk w g t cs) (hb : Below B w w') (hg : g < B) : Blk w' g t cs := (hb.block g hg).trans h
theorem Blk.grown {row : Option Nat} (h : Blk w g t cs) (hb : w.grownBy w' row) (hg : some g ≠ row) : Blk w' g t cs := (hb.block g h.lt hg).trans h
theorem Blk.ne_ {g' : Nat} {t' : TypeId} {cs' : Array Value} (h : Blk w g t cs) (h' : Blk w g' t' cs') (hne : t ≠ t') : g ≠ g' := by
  rintro rfl
  unfold Blk at h h'
  rw [h] at h'
  injection h' with h'
  injection h' with _ ht
  exact hne ht
theorem own_blk_ne {base : Nat} {e : TypeId} {size n : Nat} {v : Value} {xs : List Value} (h : w.ownsRow base e size v n xs) (hg : Blk w g t cs) (hne : e ≠ t) : v.ownBlock ≠ some g := by
  rcases h.2 with ⟨rfl, _⟩ | ⟨g', cap, cur, rfl, _, hh, _⟩
  · simp [Value.ownBlock]
  · intro he
    have : g' = g := by simpa [Value.ownBlock] using he
    subst this
    exact Blk.ne_ (t := e) hh hg hne rfl
end
section
variable {P : Program} (w : World)

theorem run_append_of_nil (base : Nat) (t ty e : TypeId) (i : TypeInfo) (size : Nat) (ht : P.underlying t = some (.slice e)) (hi : P.info? e = some i)
    (v : Value) (n : Nat) (xs : List Value) (hown : w.ownsRow base e size v n xs) (c : Nat) : (Builtin.append_ #[t, t] ty #[v, .slice none 0 c]).run P w = .ok v w := by
  rcases hown.2 with ⟨rfl, rfl⟩ | ⟨g, cap, cur, rfl, _, _, hnc, _⟩
  · simp [Builtin.append_, run_underlying ht, sizeOf, typeInfo, hi, Builtin.lenOf, Builtin.firstCells]
  · simp [Builtin.append_, run_underlying ht, sizeOf, typeInfo, hi, Builtin.lenOf, Builtin.firstCells, hnc, storeCells]

theorem run_append_any (base : Nat) (t ty e : TypeId) (i : TypeInfo) (z : Value) (size bytes : Nat) (ht : P.underlying t = some (.slice e)) (hi : P.info? e = some i) (hz : i.zero = some z)
    (hsize : i.size = size) (hby : i.bytes = bytes) (hzs : z.cells.size = size) (hsz : 0 < size)
    (v : Value) (n : Nat) (xs : List Value) (hown : w.ownsRow base e size v n xs)
    (B : Nat) (A : Option Addr) (m c : Nat) (news : List Value) (hr : Reads w B size A m news) (h1 : ∀ u ∈ news, u.oneCell' = true)
    (h63 : n + m ≤ maxLen) (hbytes : (n + m) * bytes ≤ 140737488355328) (hbase : base ≤ w.heap.size) :
    ∃ v' w', (Builtin.append_ #[t, t] ty #[v, .slice A m c]).run P w = .ok v' w' ∧ w'.ownsRow base e size v' (n + m) (xs ++ news) ∧ w.grownBy w' v.ownBlock ∧
      (v'.ownBlock = v.ownBlock ∨ v'.ownBlock = some w.heap.size) := by
  rcases A with _ | ad
  · have hm : m = 0 := by
      rcases Nat.eq_zero_or_pos m with h0 | h0
      · exact h0
      · obtain ⟨ad, h, _⟩ := hr.2 h0
        cases h
    subst hm
    have hn : news = [] := List.eq_nil_of_length_eq_zero (by simpa using hr.1)
    subst hn
    exact ⟨v, w, run_append_of_nil w base t ty e i size ht hi v n xs hown c, by simpa using hown, World.grownBy.refl w _, .inl rfl⟩
  · have hcells : ∀ j u, news[j]? = some u → w.cell? (ad.add j) = some u := by
      intro j u hu
      rcases Nat.eq_zero_or_pos m with h0 | h0
      · subst h0
        have hn : news = [] := List.eq_nil_of_length_eq_zero (by simpa using hr.1)
        subst hn
        simp at hu
      · obtain ⟨ad', h, _, hc⟩ := hr.2 h0
        injection h with h
        subst h
        exact hc j u hu
    obtain ⟨v', w', hrun, h2, h3, _, h5⟩ := run_append_own_at (P := P) w base t ty e i z size bytes ht hi hz hsize hby hzs hsz v n xs hown ad m c news hr.1 hcells h1 h63 hbytes hbase
    exact ⟨v', w', hrun, h2, h3, h5⟩

theorem wp_append_any {o : Oper} {a : Act} {K : Act → World → Prop} {Q : Exit → Act → World → Prop} (s x : Operand) (t : TypeId)
    (ho : o.op = .call { callee := .builtin .append, args := #[s, x], argTypes := #[t, t] })
    (base : Nat) (e : TypeId) (i : TypeInfo) (z : Value) (size bytes : Nat) (ht : P.underlying t = some (.slice e)) (hi : P.info? e = some i) (hz : i.zero = some z)
    (hsize : i.size = size) (hby : i.bytes = bytes) (hzs : z.cells.size = size) (hsz : 0 < size)
    (v : Value) (n : Nat) (xs : List Value) (hs : a.eval s = v) (hown : w.ownsRow base e size v n xs)
    (B : Nat) (A : Option Addr) (m c : Nat) (news : List Value) (hx : a.eval x = .slice A m c) (hr : Reads w B size A m news) (h1 : ∀ u ∈ news, u.oneCell' = true)
    (h63 : n + m ≤ maxLen) (hbytes : (n + m) * bytes ≤ 140737488355328) (hbase : base ≤ w.heap.size)
    (h : ∀ v' w', w'.ownsRow base e size v' (n + m) (xs ++ news) → w.grownBy w' v.ownBlock → (v'.ownBlock = v.ownBlock ∨ v'.ownBlock = some w.heap.size) → K (a.put o.dst v') w') : o.wp P a w K Q := by
  obtain ⟨v', w', hrun, h2, h3, h4⟩ := run_append_any (P := P) w base t o.type e i z size bytes ht hi hz hsize hby hzs hsz v n xs hown B A m c news hr h1 h63 hbytes hbase
  unfold Oper.wp execOp
  simp only [ho, resolve, invoke, builtin, Sem.run_bind, Sem.run_pure, Result.andThen_ok, List.map_toArray, List.map_cons, List.map_nil, hs, hx, hrun]
  exact h v' w' h2 h3 h4

theorem wpList_append_any {ops : Array Oper} {rest : List Oper} {o : Oper} {a : Act} {Q : Exit → Act → World → Prop} (hgd : o.guard = none) (s x : Operand) (t : TypeId)
    (ho : o.op = .call { callee := .builtin .append, args := #[s, x], argTypes := #[t, t] })
    (base : Nat) (e : TypeId) (i : TypeInfo) (z : Value) (size bytes : Nat) (ht : P.underlying t = some (.slice e)) (hi : P.info? e = some i) (hz : i.zero = some z)
    (hsize : i.size = size) (hby : i.bytes = bytes) (hzs : z.cells.size = size) (hsz : 0 < size)
    (v : Value) (n : Nat) (xs : List Value) (hs : a.eval s = v) (hown : w.ownsRow base e size v n xs)
    (B : Nat) (A : Option Addr) (m c : Nat) (news : List Value) (hx : a.eval x = .slice A m c) (hr : Reads w B size A m news) (h1 : ∀ u ∈ news, u.oneCell' = true)
    (h63 : n + m ≤ maxLen) (hbytes : (n + m) * bytes ≤ 140737488355328) (hbase : base ≤ w.heap.size)
    (h : ∀ v' w', w'.ownsRow base e size v' (n + m) (xs ++ news) → w.grownBy w' v.ownBlock → (v'.ownBlock = v.ownBlock ∨ v'.ownBlock = some w.heap.size) → wpList P ops Q rest (a.put o.dst v') w') : wpList P ops Q (o :: rest) a w :=
  wpList_plain hgd fun _ hK => wp_append_any w s x t ho base e i z size bytes ht hi hz hsize hby hzs hsz v n xs hs hown B A m c news hx hr h1 h63 hbytes hbase fun v' w' h2 h3 h4 => hK _ _ (h v' w' h2 h3 h4)

theorem step_append_any {ops : Array Oper} {o : Oper} {a : Act} {K : Act → World → Prop} {Q : Exit → Act → World → Prop} {E : Prop} (hgd : o.guard = none) (s x : Operand) (t : TypeId)
    (ho : o.op = .call { callee := .builtin .append, args := #[s, x], argTypes := #[t, t] })
    (base : Nat) (e : TypeId) (i : TypeInfo) (z : Value) (size bytes : Nat) (ht : P.underlying t = some (.slice e)) (hi : P.info? e = some i) (hz : i.zero = some z)
    (hsize : i.size = size) (hby : i.bytes = bytes) (hzs : z.cells.size = size) (hsz : 0 < size)
    (v : Value) (n : Nat) (xs : List Value) (hs : a.eval s = v) (hown : w.ownsRow base e size v n xs)
    (B : Nat) (A : Option Addr) (m c : Nat) (news : List Value) (hx : a.eval x = .slice A m c) (hr : Reads w B size A m news) (h1 : ∀ u ∈ news, u.oneCell' = true)
    (h63 : n + m ≤ maxLen) (hbytes : (n + m) * bytes ≤ 140737488355328) (hbase : base ≤ w.heap.size)
    (h : ∀ v' w', w'.ownsRow base e size v' (n + m) (xs ++ news) → w.grownBy w' v.ownBlock → (v'.ownBlock = v.ownBlock ∨ v'.ownBlock = some w.heap.size) → K (a.put o.dst v') w') :
    if Region.wanted o (yielded ops a.tmps) = true then Oper.wp P o a w K Q else E := by
  have hw : Region.wanted o (yielded ops a.tmps) = true := by simp [Region.wanted, hgd]
  rw [if_pos hw]
  exact wp_append_any w s x t ho base e i z size bytes ht hi hz hsize hby hzs hsz v n xs hs hown B A m c news hx hr h1 h63 hbytes hbase h
end
theorem below_drewN {B : Nat} {a w : World} (h : Below B a w) (n : Nat) : Below B a (w.drewN n) := ⟨h.os, h.tape, h.output, h.size, h.block⟩
theorem run_make_rowN {P : Program} (t e : TypeId) (i : TypeInfo) (z : Value) (ht : P.underlying t = some (.slice e)) (hi : P.info? e = some i) (hz : i.zero = some z)
    (kl kc : IntKind) (n c : Nat) (hnc : n ≤ c) (hbytes : i.bytes * c ≤ 281474976710656) (h63 : c ≤ 9223372036854775807) (w : World) :
    (Instr.makeSlice t (.int kl (n : Int)) (.int kc (c : Int))).run P w = .ok (.slice (some ⟨w.heap.size, 0, none⟩) n c) (w.alloc (.cells (madeCells z.cells (c * i.size)) e)) := by
  have hb : (i.bytes : Int) * (c : Int) ≤ 281474976710656 := by
    have h : ((i.bytes * c : Nat) : Int) ≤ 281474976710656 := by omega
    rwa [Int.natCast_mul] at h
  have hr := run_make (P := P) w t e i z ht hi hz kl kc n c (by omega) (by omega) hb (by omega)
  simp only [Int.toNat_natCast] at hr
  exact hr
/-- The call returned v, and nothing that was there has turned. -/
def RetV (v : Value) (w : World) (e : Ending) (w' : World) : Prop := e = .returned v ∧ Below w.heap.size w w'
theorem bcell {W w1 : World} (hb : Below W.heap.size W w1) : (∀ b o, b < W.heap.size → w1.cell? ⟨b, o, none⟩ = W.cell? ⟨b, o, none⟩) ∧ (∀ b o, b < W.heap.size → w1.frozen? ⟨b, o, none⟩ = W.frozen? ⟨b, o, none⟩) :=
  ⟨fun b o h => hb.cell (p := ⟨b, o, none⟩) h, fun b o h => hb.frozen (p := ⟨b, o, none⟩) h⟩

theorem Reads.addr {w : World} {B n size : Nat} {A : Option Addr} {xs : List Value} (h : Reads w B size A n xs) (hn : 0 < n) (hs : 0 < size) :
    ∃ b off, A = some ⟨b, off, none⟩ ∧ b < B ∧ ∀ j u, xs[j]? = some u → w.cell? ⟨b, off + j, none⟩ = some u := by
  obtain ⟨ad, rfl, hb, hc⟩ := h.2 hn
  have hl : 0 < xs.length := by rw [h.1]; exact Nat.mul_pos hn hs
  have h0 := hc 0 _ (List.getElem?_eq_getElem hl)
  obtain ⟨b, off, spot⟩ := ad
  have hsp : spot = none := by simpa [Addr.add] using World.cell?_spot h0
  subst hsp
  refine ⟨b, off, rfl, hb, fun j u hu => ?_⟩
  have := hc j u hu
  unfold Addr.add at this
  split at this
  · rename_i h; subst h; simpa using this
  · simpa using this
def RetS (size n : Nat) (xs : List Value) (w : World) (e : Ending) (w' : World) : Prop :=
  ∃ A c, e = .returned (.slice A n c) ∧ Reads w' w'.heap.size size A n xs ∧ Below w.heap.size w w'
theorem RetS.of_own {w w' : World} {base e size n : Nat} {v : Value} {xs : List Value} (h : w'.ownsRow base e size v n xs) (hB : Below w.heap.size w w') : RetS size n xs w (.returned v) w' := by
  rcases h.2 with ⟨rfl, rfl⟩ | ⟨g, cap, cur, rfl, _⟩
  · exact ⟨_, _, rfl, Reads.of_own h, hB⟩
  · exact ⟨_, _, rfl, Reads.of_own h, hB⟩
theorem lay2 (w : World) (x y : Array Value) (t u : TypeId) : Below w.heap.size w ((w.alloc (.cells x t)).alloc (.cells y u)) ∧
    Blk ((w.alloc (.cells x t)).alloc (.cells y u)) w.heap.size t x ∧ Blk ((w.alloc (.cells x t)).alloc (.cells y u)) (w.heap.size + 1) u y :=
  ⟨((Below.refl _ _).alloc (Nat.le_refl _) _).alloc (by simp) _, (Blk.new _ _ _).alloc _, by simpa using Blk.new (w.alloc (.cells x t)) u y⟩
/-- append onto a slice of the call's own, out of a block that is known whole. -/
theorem app_own {P : Program} {ops : Array Oper} {rest : List Oper} {o : Oper} {a : Act} {Q : Exit → Act → World → Prop} {w : World} {t B e size bytes : Nat} {i : TypeInfo} {z v : Value} {n : Nat} {xs : List Value}
    (ht : P.underlying t = some (.slice e)) (hi : P.info? e = some i) (hz : i.zero = some z) (hsize : i.size = size) (hby : i.bytes = bytes) (hzs : z.cells.size = size) (hsz : 0 < size)
    (hown : w.ownsRow B e size v n xs) (hB : B ≤ w.heap.size) (hgd : o.guard = none) (s x : Operand)
    (ho : o.op = .call { callee := .builtin .append, args := #[s, x], argTypes := #[t, t] }) (hs : a.eval s = v)
    (g m c : Nat) (news : Array Value) (hx : a.eval x = .slice (some ⟨g, 0, none⟩) m c) (hb : Blk w g e news) (hl : news.size = m * size) (h1 : ∀ u ∈ news.toList, u.oneCell' = true)
    (h63 : n + m ≤ 1099511627776) (hbytes : (n + m) * bytes ≤ 140737488355328)
    (h : ∀ v' w', w'.ownsRow B e size v' (n + m) (xs ++ news.toList) → w.grownBy w' v.ownBlock → Below B w w' → (v'.ownBlock = v.ownBlock ∨ v'.ownBlock = some w.heap.size) → wpList P ops Q rest (a.put o.dst v') w') :
    wpList P ops Q (o :: rest) a w := by
  refine wpList_append_any w hgd s x t ho B e i z size bytes ht hi hz hsize hby hzs hsz v n xs hs hown (g + 1) (some ⟨g, 0, none⟩) m c news.toList hx ⟨by simpa using hl, fun _ => ⟨_, rfl, by simp, fun j u hu => ?_⟩⟩ h1 (by unfold maxLen; omega) hbytes hB ?_
  · have := hb.cell j
    have hadd : (⟨g, 0, none⟩ : Addr).add j = ⟨g, j, none⟩ := by unfold Addr.add; split <;> simp_all
    rw [hadd, this]; simpa using hu
  · intro v' w' hown' hg hat
    refine h v' w' hown' hg ?_ hat
    exact (Below.refl _ _).grown hg hB (fun k hk => (hown.lt k hk).1)
theorem step_app_own {P : Program} {ops : Array Oper} {o : Oper} {a : Act} {K : Act → World → Prop} {Q : Exit → Act → World → Prop} {E : Prop} {w : World} {t B e size bytes : Nat} {i : TypeInfo} {z v : Value} {n : Nat} {xs : List Value}
    (ht : P.underlying t = some (.slice e)) (hi : P.info? e = some i) (hz : i.zero = some z) (hsize : i.size = size) (hby : i.bytes = bytes) (hzs : z.cells.size = size) (hsz : 0 < size)
    (hown : w.ownsRow B e size v n xs) (hB : B ≤ w.heap.size) (hgd : o.guard = none) (s x : Operand)
    (ho : o.op = .call { callee := .builtin .append, args := #[s, x], argTypes := #[t, t] }) (hs : a.eval s = v)
    (g m c : Nat) (news : Array Value) (hx : a.eval x = .slice (some ⟨g, 0, none⟩) m c) (hb : Blk w g e news) (hl : news.size = m * size) (h1 : ∀ u ∈ news.toList, u.oneCell' = true)
    (h63 : n + m ≤ 1099511627776) (hbytes : (n + m) * bytes ≤ 140737488355328)
    (h : ∀ v' w', w'.ownsRow B e size v' (n + m) (xs ++ news.toList) → w.grownBy w' v.ownBlock → Below B w w' → (v'.ownBlock = v.ownBlock ∨ v'.ownBlock = some w.heap.size) → K (a.put o.dst v') w') :
    if Region.wanted o (yielded ops a.tmps) = true then Oper.wp P o a w K Q else E := by
  refine step_append_any w hgd s x t ho B e i z size bytes ht hi hz hsize hby hzs hsz v n xs hs hown (g + 1) (some ⟨g, 0, none⟩) m c news.toList hx ⟨by simpa using hl, fun _ => ⟨_, rfl, by simp, fun j u hu => ?_⟩⟩ h1 (by unfold maxLen; omega) hbytes hB ?_
  · have := hb.cell j
    have hadd : (⟨g, 0, none⟩ : Addr).add j = ⟨g, j, none⟩ := by unfold Addr.add; split <;> simp_all
    rw [hadd, this]; simpa using hu
  · intro v' w' hown' hg hat
    refine h v' w' hown' hg ?_ hat
    exact (Below.refl _ _).grown hg hB (fun k hk => (hown.lt k hk).1)
theorem _root_.Go.World.ownsRow.drewN {w : World} {base e size n : Nat} {v : Value} {xs : List Value} (h : w.ownsRow base e size v n xs) (k : Nat) : (w.drewN k).ownsRow base e size v n xs := h
theorem _root_.Go.World.ownsRow.drew' {w : World} {base e size n : Nat} {v : Value} {xs : List Value} (h : w.ownsRow base e size v n xs) : w.drew.ownsRow base e size v n xs := h
theorem _root_.Go.World.ownsRow.below {w w' : World} {base e size n : Nat} {v : Value} {xs : List Value} (h : w.ownsRow base e size v n xs) (hb : Below w.heap.size w w') : w'.ownsRow base e size v n xs := by
  refine ⟨h.1, ?_⟩
  rcases h.2 with hn | ⟨g, cap, cur, rfl, hb', hgg, rest⟩
  · exact .inl hn
  · refine .inr ⟨g, cap, cur, rfl, hb', ?_, rest⟩
    rw [hb.block g (Array.getElem?_eq_some_iff.1 hgg).1]
    exact hgg
/-- A two-step road: below B across a call that keeps all. -/
theorem _root_.Go.RowKit.Below.call {B : Nat} {a w w' : World} (h : Below B a w) (hB : B ≤ w.heap.size) (k : Below w.heap.size w w') : Below B a w' := h.trans (k.mono hB)
theorem Blk.call {w w' : World} {g : Nat} {t : TypeId} {cs : Array Value} (h : Blk w g t cs) (k : Below w.heap.size w w') : Blk w' g t cs := h.below k h.lt
theorem Reads.call {w w' : World} {size n : Nat} {A : Option Addr} {xs : List Value} (h : Reads w w.heap.size size A n xs) (k : Below w.heap.size w w') : Reads w' w'.heap.size size A n xs := (h.below k).more k.size

theorem ownsRow_pos {w : World} {base e size n : Nat} {v : Value} {xs : List Value} (h : w.ownsRow base e size v n xs) (hn : 0 < n) : ∃ g cap, v = .slice (some ⟨g, 0, none⟩) n cap ∧ base ≤ g ∧ g < w.heap.size := by
  rcases h.2 with ⟨rfl, rfl⟩ | ⟨g, cap, cur, rfl, hb, hg, _⟩
  · omega
  · exact ⟨g, cap, rfl, hb, (Array.getElem?_eq_some_iff.1 hg).1⟩

/-- All that lay when a region began reads as it did. -/
def SBel (wr w' : World) : Prop := wr.heap.size ≤ w'.heap.size ∧ ∀ b o, b < wr.heap.size → w'.cell? ⟨b, o, none⟩ = wr.cell? ⟨b, o, none⟩
theorem SBel.refl (wr : World) : SBel wr wr := ⟨Nat.le_refl _, fun _ _ _ => rfl⟩
theorem SBel.drew {wr : World} : SBel wr wr.drew := ⟨Nat.le_refl _, fun _ _ _ => rfl⟩
theorem SBel.alloc {wr w : World} (h : SBel wr w) (o : Obj) : SBel wr (w.alloc o) :=
  ⟨by have := h.1; simp; omega, fun b k hb => by rw [World.cell?_alloc_lt w o ⟨b, k, none⟩ (by have := h.1; simp; omega)]; exact h.2 b k hb⟩
theorem SBel.below {wr w w' : World} (h : SBel wr w) (k : Below w.heap.size w w') : SBel wr w' :=
  ⟨Nat.le_trans h.1 k.size, fun b o hb => (k.cell (p := ⟨b, o, none⟩) (by have := h.1; simp; omega)).trans (h.2 b o hb)⟩
theorem SBel.set {wr w : World} (h : SBel wr w) {p : Addr} (hp : wr.heap.size ≤ p.block) (v : Value) : SBel wr (w.setCell p v) :=
  ⟨by simpa [World.setCell] using h.1, fun b o hb => by rw [World.cell?_setCell_other w p ⟨b, o, none⟩ v (fun e => by subst e; simp at hp; omega)]; exact h.2 b o hb⟩
/-- All that lay below B when a region began reads as it did. -/
def SBl (B : Nat) (wr w' : World) : Prop := B ≤ w'.heap.size ∧ ∀ b o, b < B → w'.cell? ⟨b, o, none⟩ = wr.cell? ⟨b, o, none⟩
theorem SBl.drew {B : Nat} {wr : World} (h : B ≤ wr.heap.size) : SBl B wr wr.drew := ⟨h, fun _ _ _ => rfl⟩
theorem SBl.alloc {B : Nat} {wr w : World} (h : SBl B wr w) (o : Obj) : SBl B wr (w.alloc o) :=
  ⟨by have := h.1; simp; omega, fun b k hb => by rw [World.cell?_alloc_lt w o ⟨b, k, none⟩ (by have := h.1; simp; omega)]; exact h.2 b k hb⟩
theorem SBl.below {B C : Nat} {wr w w' : World} (h : SBl B wr w) (k : Below C w w') (hC : B ≤ C) : SBl B wr w' :=
  ⟨Nat.le_trans h.1 k.size, fun b o hb => (k.cell (p := ⟨b, o, none⟩) (by simp; omega)).trans (h.2 b o hb)⟩
theorem SBl.call {B : Nat} {wr w w' : World} (h : SBl B wr w) (k : Below w.heap.size w w') : SBl B wr w' := h.below k h.1
theorem SBl.set {B : Nat} {wr w : World} (h : SBl B wr w) {p : Addr} (hp : B ≤ p.block) (v : Value) : SBl B wr (w.setCell p v) :=
  ⟨by simpa [World.setCell] using h.1, fun b o hb => by rw [World.cell?_setCell_other w p ⟨b, o, none⟩ v (fun e => by subst e; simp at hp; omega)]; exact h.2 b o hb⟩
/-- after_call2: both together, as the walk leaves them. -/
theorem _root_.Go.World.ownsRow.keep {w w' : World} {base e size n B : Nat} {v : Value} {xs : List Value} (h : w.ownsRow base e size v n xs) (hb : Below B w w') (hB : w.heap.size ≤ B) : w'.ownsRow base e size v n xs := h.below (hb.mono hB)
theorem Reads.up {w w' : World} {B size n : Nat} {A : Option Addr} {xs : List Value} (h : Reads w B size A n xs) (k : Below B w w') (hB : B ≤ w'.heap.size) : Reads w' w'.heap.size size A n xs := (h.below k).more hB

/-! A slice of the call's own that begins anywhere in its block (a queue that is cut at its head). -/
def ownsOff (w : World) (B : Nat) (e : TypeId) (size : Nat) (v : Value) (n : Nat) (xs : List Value) : Prop :=
  xs.length = n * size ∧ ∃ g o cap cur, v = .slice (some ⟨g, o, none⟩) n cap ∧ B ≤ g ∧ w.heap[g]? = some (.cells cur e (0, 0)) ∧ n ≤ cap ∧ cap ≤ maxLen ∧ o + cap * size ≤ cur.size ∧ (cur.toList.drop o).take (n * size) = xs
theorem ownsOff.of_own {w : World} {B e size n : Nat} {v : Value} {xs : List Value} (h : w.ownsRow B e size v n xs) (hn : 0 < n) : ownsOff w B e size v n xs := by
  rcases h.2 with ⟨rfl, rfl⟩ | ⟨g, cap, cur, rfl, hb, hg, hc, hm, hs, ht⟩
  · omega
  · exact ⟨h.1, g, 0, cap, cur, rfl, hb, hg, hc, hm, by omega, by simpa using ht⟩
theorem ownsOff.keep {w w' : World} {B e size n : Nat} {v : Value} {xs : List Value} (h : ownsOff w B e size v n xs) (hk : ∀ g cur t, v.ownBlock = some g → w.heap[g]? = some (.cells cur t (0, 0)) → w'.heap[g]? = some (.cells cur t (0, 0))) : ownsOff w' B e size v n xs := by
  obtain ⟨h1, g, o, cap, cur, rfl, hb, hg, rest⟩ := h
  exact ⟨h1, g, o, cap, cur, rfl, hb, hk g cur e rfl hg, rest⟩
theorem ownsOff.lt {w : World} {B e size n : Nat} {v : Value} {xs : List Value} (h : ownsOff w B e size v n xs) : ∃ g, v.ownBlock = some g ∧ B ≤ g ∧ g < w.heap.size := by
  obtain ⟨h1, g, o, cap, cur, rfl, hb, hg, rest⟩ := h
  exact ⟨g, rfl, hb, (Array.getElem?_eq_some_iff.1 hg).1⟩
theorem ownsOff.below {w w' : World} {B e size n : Nat} {v : Value} {xs : List Value} (h : ownsOff w B e size v n xs) (hb : Below w.heap.size w w') : ownsOff w' B e size v n xs := by
  obtain ⟨g', e', _, hlt⟩ := h.lt
  exact h.keep fun g cur t hg hh => by rw [e'] at hg; injection hg with hg; subst hg; rw [hb.block _ hlt]; exact hh
theorem ownsOff.alloc {w : World} {B e size n : Nat} {v : Value} {xs : List Value} (h : ownsOff w B e size v n xs) (o : Obj) : ownsOff (w.alloc o) B e size v n xs := h.below ((Below.refl _ _).alloc (Nat.le_refl _) _)
theorem ownsOff.drewN {w : World} {B e size n : Nat} {v : Value} {xs : List Value} (h : ownsOff w B e size v n xs) (k : Nat) : ownsOff (w.drewN k) B e size v n xs := h
theorem ownsOff.form {w : World} {B e size n : Nat} {v : Value} {xs : List Value} (h : ownsOff w B e size v n xs) : ∃ g o cap, v = .slice (some ⟨g, o, none⟩) n cap ∧ B ≤ g ∧ g < w.heap.size ∧ n ≤ cap ∧ cap ≤ maxLen ∧ ∀ j, j < n * size → w.cell? ⟨g, o + j, none⟩ = xs[j]? := by
  obtain ⟨h1, g, o, cap, cur, rfl, hb, hg, hc, hm, hs, ht⟩ := h
  refine ⟨g, o, cap, rfl, hb, (Array.getElem?_eq_some_iff.1 hg).1, hc, hm, fun j hj => ?_⟩
  rw [cell_of_row w g (o + j) cur e (0, 0) hg, ← ht, List.getElem?_take, if_pos hj, List.getElem?_drop]
  simp
theorem ownsOff.tail {w : World} {B e size n g o cap : Nat} {xs : List Value} (h : ownsOff w B e size (.slice (some ⟨g, o, none⟩) (n + 1) cap) (n + 1) xs) :
    ownsOff w B e size (.slice (some (if cap = 1 then ⟨g, o, none⟩ else ⟨g, o + size, none⟩)) n (cap - 1)) n (xs.drop size) := by
  obtain ⟨h1, g', o', cap', cur, e', hb, hg, hc, hm, hs, ht⟩ := h
  injection e' with e1 e2 e3
  injection e1 with e1
  injection e1 with e4 e5
  subst e3 e4 e5
  refine ⟨by rw [List.length_drop, h1, Nat.succ_mul]; omega, ?_⟩
  by_cases h0 : cap = 1
  · subst h0
    obtain rfl : n = 0 := by omega
    refine ⟨g, o, 0, cur, by simp, hb, hg, by omega, by omega, by omega, ?_⟩
    have hxs : xs.length = size := by rw [h1]; simp
    rw [List.drop_eq_nil_of_le (Nat.le_of_eq hxs), Nat.zero_mul, List.take_zero]
  · rw [if_neg h0]
    obtain ⟨d, rfl⟩ : ∃ d, cap = d + 1 := ⟨cap - 1, by omega⟩
    refine ⟨g, o + size, d, cur, by simp, hb, hg, by omega, by omega, by rw [Nat.succ_mul] at hs; omega, ?_⟩
    rw [← ht, List.drop_take, List.drop_drop, Nat.succ_mul, Nat.add_sub_cancel]
end Go.Proofs.YtbefmlioampgcaaGreatDoor

/- Kernels as they lie in memory: expressions, places, guards and processes, each with where its parts lie. -/
namespace Go.Proofs.YtbefmlioampgcaaGreatDoor
open Go.RowKit
set_option linter.unusedVariables false
set_option linter.unusedSimpArgs false

/-- An expression of a kernel. A, c: where its parts lie. -/
structure KE where
  kind : Nat
  oper : Nat
  tk : Nat
  n : Int
  v : Int
  A : Option Addr
  c : Nat
  l : List KE
/-- A place. -/
structure KPl where
  v : Int
  A : Option Addr
  c : Nat
  l : List KE
mutual
/-- A process. -/
structure KP where
  kind : Nat
  c : Int
  v : Int
  item : Nat
  At : Option Addr
  ct : Nat
  tos : List KPl
  Ae : Option Addr
  ce : Nat
  e : List KE
  Ag : Option Addr
  cg : Nat
  g : List KG
  Al : Option Addr
  cl : Nat
  l : List KP
/-- A guard. -/
structure KG where
  kind : Nat
  cond : KE
  c : Int
  item : Nat
  dst : KPl
  time : KE
  Ab : Option Addr
  cb : Nat
  body : List KP
end
instance : Inhabited KE := ⟨⟨0, 0, 0, 0, 0, none, 0, []⟩⟩
instance : Inhabited KPl := ⟨⟨0, none, 0, []⟩⟩
instance : Inhabited KP := ⟨⟨0, 0, 0, 0, none, 0, [], none, 0, [], none, 0, [], none, 0, []⟩⟩
instance : Inhabited KG := ⟨⟨0, default, 0, 0, default, default, none, 0, []⟩⟩
def KE.cells (e : KE) : Array Value := #[.int .u8 e.kind, .int .u8 e.oper, .int .u8 e.tk, .int .i32 e.n, .int .i64 e.v, .slice e.A e.l.length e.c]
def KPl.cells (p : KPl) : Array Value := #[.int .i64 p.v, .slice p.A p.l.length p.c]
def KP.cells (p : KP) : Array Value := #[.int .u8 p.kind, .int .i64 p.c, .int .i64 p.v, .int .u8 p.item, .slice p.At p.tos.length p.ct, .slice p.Ae p.e.length p.ce, .slice p.Ag p.g.length p.cg, .slice p.Al p.l.length p.cl]
/-- The cells of a guard as they lie in a row. -/
def KG.row (g : KG) : List Value := .int .u8 g.kind :: g.cond.cells.toList ++ (.int .i64 g.c :: .int .u8 g.item :: g.dst.cells.toList ++ (g.time.cells.toList ++ [.slice g.Ab g.body.length g.cb]))
/-- A guard as a value. -/
def KG.cells (g : KG) : Array Value := #[.int .u8 g.kind, .agg g.cond.cells, .int .i64 g.c, .int .u8 g.item, .agg g.dst.cells, .agg g.time.cells, .slice g.Ab g.body.length g.cb]
def kesC (l : List KE) : List Value := l.flatMap fun e => e.cells.toList
def kplsC (l : List KPl) : List Value := l.flatMap fun p => p.cells.toList
def kpsC (l : List KP) : List Value := l.flatMap fun p => p.cells.toList
def kgsC (l : List KG) : List Value := l.flatMap KG.row

mutual
/-- P of every part of an expression. -/
def KE.all (P : KE → Prop) : KE → Prop
  | ⟨k, o, t, n, v, A, c, l⟩ => P ⟨k, o, t, n, v, A, c, l⟩ ∧ kesAll P l
def kesAll (P : KE → Prop) : List KE → Prop
  | [] => True
  | e :: l => e.all P ∧ kesAll P l
end
theorem kesAll_iff {P : KE → Prop} : ∀ {l : List KE}, kesAll P l ↔ ∀ e ∈ l, e.all P
  | [] => by simp [kesAll]
  | e :: l => by simp [kesAll, kesAll_iff (l := l)]
theorem KE.all_iff {P : KE → Prop} {e : KE} : e.all P ↔ P e ∧ ∀ x ∈ e.l, x.all P := by
  obtain ⟨k, o, t, n, v, A, c, l⟩ := e
  rw [KE.all, kesAll_iff]
theorem KE.size_lt {e x : KE} (h : x ∈ e.l) : SizeOf.sizeOf x < SizeOf.sizeOf e := by
  obtain ⟨k, o, t, n, v, A, c, l⟩ := e
  have := List.sizeOf_lt_of_mem h
  simp at this ⊢
  omega
/-- Induction over an expression's parts. -/
theorem KE.ind {Q : KE → Prop} (h : ∀ e, (∀ x ∈ e.l, Q x) → Q e) : ∀ e, Q e := by
  intro e
  have : ∀ n, ∀ e : KE, SizeOf.sizeOf e ≤ n → Q e := by
    intro n
    induction n with
    | zero =>
      intro e he
      exact h e fun x hx => absurd (KE.size_lt hx) (by omega)
    | succ n ih =>
      intro e he
      exact h e fun x hx => ih x (by have := KE.size_lt hx; omega)
  exact this _ e (Nat.le_refl _)
theorem KE.all_imp {P Q : KE → Prop} (h : ∀ e, P e → Q e) (e : KE) : e.all P → e.all Q := by
  induction e using KE.ind with
  | h e ih =>
    rw [KE.all_iff, KE.all_iff]
    exact fun ⟨h1, h2⟩ => ⟨h e h1, fun x hx => ih x hx (h2 x hx)⟩
mutual
/-- P of every process inside a process. -/
def KP.all (P : KP → Prop) : KP → Prop
  | ⟨kind, c, v, item, At, ct, tos, Ae, ce, e, Ag, cg, g, Al, cl, l⟩ => P ⟨kind, c, v, item, At, ct, tos, Ae, ce, e, Ag, cg, g, Al, cl, l⟩ ∧ kgsAll P g ∧ kpsAll P l
def KG.all (P : KP → Prop) : KG → Prop
  | ⟨_, _, _, _, _, _, _, _, body⟩ => kpsAll P body
def kgsAll (P : KP → Prop) : List KG → Prop
  | [] => True
  | g :: l => g.all P ∧ kgsAll P l
def kpsAll (P : KP → Prop) : List KP → Prop
  | [] => True
  | p :: l => p.all P ∧ kpsAll P l
end
theorem kpsAll_iff {P : KP → Prop} : ∀ {l : List KP}, kpsAll P l ↔ ∀ p ∈ l, p.all P
  | [] => by simp [kpsAll]
  | e :: l => by simp [kpsAll, kpsAll_iff (l := l)]
theorem KG.all_iff {P : KP → Prop} {g : KG} : g.all P ↔ ∀ p ∈ g.body, p.all P := by
  obtain ⟨_, _, _, _, _, _, _, _, body⟩ := g
  rw [KG.all, kpsAll_iff]
theorem kgsAll_iff {P : KP → Prop} : ∀ {l : List KG}, kgsAll P l ↔ ∀ g ∈ l, ∀ p ∈ g.body, p.all P
  | [] => by simp [kgsAll]
  | e :: l => by simp [kgsAll, kgsAll_iff (l := l), KG.all_iff]
theorem KP.all_iff {P : KP → Prop} {p : KP} : p.all P ↔ P p ∧ (∀ g ∈ p.g, ∀ x ∈ g.body, x.all P) ∧ ∀ x ∈ p.l, x.all P := by
  obtain ⟨kind, c, v, item, At, ct, tos, Ae, ce, e, Ag, cg, g, Al, cl, l⟩ := p
  rw [KP.all, kgsAll_iff, kpsAll_iff]
theorem KP.size_lt {p x : KP} (h : x ∈ p.l) : SizeOf.sizeOf x < SizeOf.sizeOf p := by
  obtain ⟨kind, c, v, item, At, ct, tos, Ae, ce, e, Ag, cg, g, Al, cl, l⟩ := p
  have := List.sizeOf_lt_of_mem h
  simp at this ⊢
  omega
theorem KP.size_guard {p x : KP} {g : KG} (hg : g ∈ p.g) (h : x ∈ g.body) : SizeOf.sizeOf x < SizeOf.sizeOf p := by
  obtain ⟨kind, c, v, item, At, ct, tos, Ae, ce, e, Ag, cg, gs, Al, cl, l⟩ := p
  obtain ⟨_, _, _, _, _, _, _, _, body⟩ := g
  have h1 := List.sizeOf_lt_of_mem hg
  have h2 := List.sizeOf_lt_of_mem h
  simp at h1 h2 ⊢
  omega
theorem KP.ind {Q : KP → Prop} (h : ∀ p, (∀ g ∈ p.g, ∀ x ∈ g.body, Q x) → (∀ x ∈ p.l, Q x) → Q p) : ∀ p, Q p := by
  intro p
  have : ∀ n, ∀ p : KP, SizeOf.sizeOf p ≤ n → Q p := by
    intro n
    induction n with
    | zero =>
      intro p hp
      exact h p (fun g hg x hx => absurd (KP.size_guard hg hx) (by omega)) fun x hx => absurd (KP.size_lt hx) (by omega)
    | succ n ih =>
      intro p hp
      exact h p (fun g hg x hx => ih x (by have := KP.size_guard hg hx; omega)) fun x hx => ih x (by have := KP.size_lt hx; omega)
  exact this _ p (Nat.le_refl _)
theorem KP.all_imp {P Q : KP → Prop} (h : ∀ p, P p → Q p) (p : KP) : p.all P → p.all Q := by
  induction p using KP.ind with
  | h p ih1 ih2 =>
    rw [KP.all_iff, KP.all_iff]
    exact fun ⟨h1, h2, h3⟩ => ⟨h p h1, fun g hg x hx => ih1 g hg x hx (h2 g hg x hx), fun x hx => ih2 x hx (h3 x hx)⟩

def i64ok (a : Int) : Prop := -9223372036854775808 ≤ a ∧ a ≤ 9223372036854775807
def i32ok (a : Int) : Prop := -2147483648 ≤ a ∧ a ≤ 2147483647
def lenOk {α : Type} (l : List α) : Prop := l.length ≤ 140737488355328
/-- What an expression's own cells, and the row of its parts, are in a world. -/
def KE.One (w : World) (B : Nat) (e : KE) : Prop :=
  (e.kind ≤ 255 ∧ e.oper ≤ 255 ∧ e.tk ≤ 255 ∧ i32ok e.n ∧ i64ok e.v ∧ lenOk e.l) ∧ Reads w B 6 e.A e.l.length (kesC e.l)
def KE.In (w : World) (B : Nat) (e : KE) : Prop := e.all (KE.One w B)
/-- A row of expressions. -/
def kesIn (w : World) (B : Nat) (A : Option Addr) (l : List KE) : Prop := lenOk l ∧ Reads w B 6 A l.length (kesC l) ∧ ∀ e ∈ l, e.In w B
def KPl.In (w : World) (B : Nat) (p : KPl) : Prop := i64ok p.v ∧ kesIn w B p.A p.l
def kplsIn (w : World) (B : Nat) (A : Option Addr) (l : List KPl) : Prop := lenOk l ∧ Reads w B 2 A l.length (kplsC l) ∧ ∀ p ∈ l, p.In w B
/-- What a guard's own parts are, but for its body's processes. -/
def KG.One (w : World) (B : Nat) (g : KG) : Prop :=
  (g.kind ≤ 255 ∧ i64ok g.c ∧ g.item ≤ 255 ∧ lenOk g.body) ∧ g.cond.In w B ∧ g.dst.In w B ∧ g.time.In w B ∧ Reads w B 8 g.Ab g.body.length (kpsC g.body)
def KP.One (w : World) (B : Nat) (p : KP) : Prop :=
  (p.kind ≤ 255 ∧ i64ok p.c ∧ i64ok p.v ∧ p.item ≤ 255 ∧ lenOk p.g ∧ lenOk p.l) ∧ kplsIn w B p.At p.tos ∧ kesIn w B p.Ae p.e ∧
    (Reads w B 18 p.Ag p.g.length (kgsC p.g) ∧ ∀ g ∈ p.g, g.One w B) ∧ Reads w B 8 p.Al p.l.length (kpsC p.l)
def KP.In (w : World) (B : Nat) (p : KP) : Prop := p.all (KP.One w B)
section
variable {w w' : World} {B B' : Nat}
theorem KE.One.below {e : KE} (h : e.One w B) (hb : Below B w w') : e.One w' B := ⟨h.1, h.2.below hb⟩
theorem KE.One.more {e : KE} (h : e.One w B) (hB : B ≤ B') : e.One w B' := ⟨h.1, h.2.more hB⟩
theorem KE.In.below {e : KE} (h : e.In w B) (hb : Below B w w') : e.In w' B := KE.all_imp (fun _ h => h.below hb) e h
theorem KE.In.more {e : KE} (h : e.In w B) (hB : B ≤ B') : e.In w B' := KE.all_imp (fun _ h => h.more hB) e h
theorem KE.In.part {e x : KE} (h : e.In w B) (hx : x ∈ e.l) : x.In w B := (KE.all_iff.1 h).2 x hx
theorem KE.In.one {e : KE} (h : e.In w B) : e.One w B := (KE.all_iff.1 h).1
theorem KE.In.parts {e : KE} (h : e.In w B) : kesIn w B e.A e.l := ⟨h.one.1.2.2.2.2.2, h.one.2, fun _ hx => h.part hx⟩
theorem kesIn.below {A : Option Addr} {l : List KE} (h : kesIn w B A l) (hb : Below B w w') : kesIn w' B A l := ⟨h.1, h.2.1.below hb, fun e he => (h.2.2 e he).below hb⟩
theorem kesIn.more {A : Option Addr} {l : List KE} (h : kesIn w B A l) (hB : B ≤ B') : kesIn w B' A l := ⟨h.1, h.2.1.more hB, fun e he => (h.2.2 e he).more hB⟩
theorem KPl.In.below {p : KPl} (h : p.In w B) (hb : Below B w w') : p.In w' B := ⟨h.1, h.2.below hb⟩
theorem KPl.In.more {p : KPl} (h : p.In w B) (hB : B ≤ B') : p.In w B' := ⟨h.1, h.2.more hB⟩
theorem kplsIn.below {A : Option Addr} {l : List KPl} (h : kplsIn w B A l) (hb : Below B w w') : kplsIn w' B A l := ⟨h.1, h.2.1.below hb, fun e he => (h.2.2 e he).below hb⟩
theorem kplsIn.more {A : Option Addr} {l : List KPl} (h : kplsIn w B A l) (hB : B ≤ B') : kplsIn w B' A l := ⟨h.1, h.2.1.more hB, fun e he => (h.2.2 e he).more hB⟩
theorem KG.One.below {g : KG} (h : g.One w B) (hb : Below B w w') : g.One w' B := ⟨h.1, h.2.1.below hb, h.2.2.1.below hb, h.2.2.2.1.below hb, h.2.2.2.2.below hb⟩
theorem KG.One.more {g : KG} (h : g.One w B) (hB : B ≤ B') : g.One w B' := ⟨h.1, h.2.1.more hB, h.2.2.1.more hB, h.2.2.2.1.more hB, h.2.2.2.2.more hB⟩
theorem KP.One.below {p : KP} (h : p.One w B) (hb : Below B w w') : p.One w' B :=
  ⟨h.1, h.2.1.below hb, h.2.2.1.below hb, ⟨h.2.2.2.1.1.below hb, fun g hg => (h.2.2.2.1.2 g hg).below hb⟩, h.2.2.2.2.below hb⟩
theorem KP.One.more {p : KP} (h : p.One w B) (hB : B ≤ B') : p.One w B' :=
  ⟨h.1, h.2.1.more hB, h.2.2.1.more hB, ⟨h.2.2.2.1.1.more hB, fun g hg => (h.2.2.2.1.2 g hg).more hB⟩, h.2.2.2.2.more hB⟩
theorem KP.In.below {p : KP} (h : p.In w B) (hb : Below B w w') : p.In w' B := KP.all_imp (fun _ h => h.below hb) p h
theorem KP.In.more {p : KP} (h : p.In w B) (hB : B ≤ B') : p.In w B' := KP.all_imp (fun _ h => h.more hB) p h
theorem KP.In.one {p : KP} (h : p.In w B) : p.One w B := (KP.all_iff.1 h).1
theorem KP.In.part {p x : KP} (h : p.In w B) (hx : x ∈ p.l) : x.In w B := (KP.all_iff.1 h).2.2 x hx
theorem KP.In.guard {p x : KP} {g : KG} (h : p.In w B) (hg : g ∈ p.g) (hx : x ∈ g.body) : x.In w B := (KP.all_iff.1 h).2.1 g hg x hx
end
/-- The cells of one element of a row. -/
theorem flat_at {α : Type} {f : α → List Value} {size : Nat} (hf : ∀ x, (f x).length = size) : ∀ {l : List α} {k : Nat} {x : α}, l[k]? = some x → ∀ j, j < size → (l.flatMap f)[k * size + j]? = (f x)[j]?
  | [], k, x, h, _, _ => by simp at h
  | y :: r, 0, x, h, j, hj => by
    simp at h; subst h
    rw [List.flatMap_cons, List.getElem?_append_left (by rw [hf]; omega)]
    simp
  | y :: r, k + 1, x, h, j, hj => by
    rw [List.flatMap_cons, List.getElem?_append_right (by rw [hf, Nat.succ_mul]; omega), hf, show (k + 1) * size + j - size = k * size + j by rw [Nat.succ_mul]; omega]
    exact flat_at hf (l := r) (by simpa using h) j hj
/-- An element of a row: where it lies. -/
theorem row_at {α : Type} {f : α → List Value} {size : Nat} (hf : ∀ x, (f x).length = size) (hs : 0 < size) {w : World} {B : Nat} {A : Option Addr} {l : List α} (h : Reads w B size A l.length (l.flatMap f)) {k : Nat} (hk : k < l.length) :
    ∃ b off x, A = some ⟨b, off, none⟩ ∧ b < B ∧ l[k]? = some x ∧ x ∈ l ∧ ∀ j u, (f x)[j]? = some u → w.cell? ⟨b, off + k * size + j, none⟩ = some u := by
  obtain ⟨b, off, rfl, hb, hc⟩ := h.addr (by omega) hs
  have hx : l[k]? = some l[k] := List.getElem?_eq_getElem hk
  refine ⟨b, off, l[k], rfl, hb, hx, List.getElem_mem hk, fun j u hu => ?_⟩
  have hj : j < size := by have := (List.getElem?_eq_some_iff.1 hu).1; rwa [hf] at this
  have := hc (k * size + j) u (by rw [flat_at hf hx j hj]; exact hu)
  rwa [Nat.add_assoc]
theorem KE.cells_len (e : KE) : e.cells.toList.length = 6 := rfl
theorem KPl.cells_len (p : KPl) : p.cells.toList.length = 2 := rfl
theorem KP.cells_len (p : KP) : p.cells.toList.length = 8 := rfl
theorem kes_at {w : World} {B : Nat} {A : Option Addr} {l : List KE} (h : kesIn w B A l) {k : Nat} (hk : k < l.length) :
    ∃ b off x, A = some ⟨b, off, none⟩ ∧ b < B ∧ l[k]? = some x ∧ x.In w B ∧ ∀ j u, x.cells[j]? = some u → w.cell? ⟨b, off + k * 6 + j, none⟩ = some u := by
  obtain ⟨b, off, x, h1, h2, h3, h4, h5⟩ := row_at KE.cells_len (by decide) h.2.1 hk
  exact ⟨b, off, x, h1, h2, h3, h.2.2 x h4, fun j u hu => h5 j u (by rw [Array.getElem?_toList]; exact hu)⟩
end Go.Proofs.YtbefmlioampgcaaGreatDoor

/- Which kernels are valid, in plain words. -/
namespace Go.Proofs.YtbefmlioampgcaaGreatDoor
open Go.RowKit
set_option linter.unusedVariables false
set_option linter.unusedSimpArgs false

def primB (k : Nat) : Bool := decide (1 ≤ k ∧ k ≤ 3)
/-- An expression has the fields that its kind uses, and no others. -/
def fieldsB (e : KE) : Bool :=
  match e.kind with
  | 1 => decide (e.l.length = 0 ∧ e.oper = 0 ∧ e.tk = 0 ∧ e.v = 0)
  | 2 => decide (e.l.length = 0 ∧ e.oper = 0 ∧ e.tk = 0 ∧ e.n = 0 ∧ 0 ≤ e.v ∧ e.v < 256)
  | 3 => decide (e.l.length = 1 ∧ e.oper = 0 ∧ e.tk = 0 ∧ e.n = 0 ∧ 0 ≤ e.v ∧ e.v < 256)
  | 4 => decide (e.l.length = 1 ∧ (23 ≤ e.oper ∧ e.oper ≤ 26) ∧ e.tk = 0 ∧ e.n = 0 ∧ e.v = 0)
  | 5 => decide (e.l.length = 2 ∧ (1 ≤ e.oper ∧ e.oper ≤ 22) ∧ e.tk = 0 ∧ e.n = 0 ∧ e.v = 0)
  | 6 => decide (e.l.length = 1 ∧ e.oper = 0 ∧ (1 ≤ e.tk ∧ e.tk ≤ 3) ∧ e.n = 0 ∧ e.v = 0)
  | _ => false
mutual
/-- How many of so many expressions are left after those in e, which is inside so many. -/
def roomE (inside left : Nat) : KE → Option Nat
  | ⟨k, o, t, n, v, A, c, l⟩ => if decide (32 ≤ inside) || decide (left = 0) || !fieldsB ⟨k, o, t, n, v, A, c, l⟩ then none else roomL (inside + 1) (left - 1) l
def roomL (inside left : Nat) : List KE → Option Nat
  | [] => some left
  | e :: l => match roomE inside left e with
    | none => none
    | some left' => roomL inside left' l
end
theorem roomE_eq (inside left : Nat) (e : KE) : roomE inside left e = if decide (32 ≤ inside) || decide (left = 0) || !fieldsB e then none else roomL (inside + 1) (left - 1) e.l := by
  obtain ⟨k, o, t, n, v, A, c, l⟩ := e
  rw [roomE]
def validE (e : KE) : Bool := (roomE 0 256 e).isSome
theorem roomL_some : ∀ {l : List KE} {inside left r : Nat}, roomL inside left l = some r → ∀ e ∈ l, ∃ a b, roomE inside a e = some b
  | [], _, _, _, _, e, he => by cases he
  | x :: l, inside, left, r, h, e, he => by
    rw [roomL] at h
    cases hx : roomE inside left x with
    | none => rw [hx] at h; cases h
    | some y =>
      rw [hx] at h
      rcases List.mem_cons.1 he with rfl | he
      · exact ⟨_, _, hx⟩
      · exact roomL_some h e he
/-- Every part has its kind's fields. -/
theorem roomE_all (e : KE) : ∀ {inside left r : Nat}, roomE inside left e = some r → e.all (fun x => fieldsB x = true) := by
  induction e using KE.ind with
  | h e ih =>
    intro inside left r h
    rw [roomE_eq] at h
    split at h
    · cases h
    · rename_i hc
      rw [KE.all_iff]
      refine ⟨by cases hf : fieldsB e with | true => rfl | false => rw [hf] at hc; simp at hc, fun x hx => ?_⟩
      obtain ⟨a, b, hab⟩ := roomL_some h x hx
      exact ih x hx hab
theorem validE_all {e : KE} (h : validE e = true) : e.all (fun x => fieldsB x = true) := by
  unfold validE at h
  cases hr : roomE 0 256 e with
  | none => rw [hr] at h; cases h
  | some r => exact roomE_all e hr
/-- A variable: its kind, and how many elements it has. -/
structure KVar where
  kind : Nat
  dim : Int
mutual
/-- A valid expression fits a kind. -/
def fitsB (vs : List KVar) : KE → Nat → Bool
  | ⟨k, o, t, n, v, _, _, l⟩, q =>
    match k with
    | 1 => q == 1 || (q == 2 && decide (0 ≤ n ∧ n ≤ 255)) || (q == 3 && decide (n = 0 ∨ n = 1))
    | 2 => match vs[v.toNat]? with
      | some x => decide (x.dim = 0) && x.kind == q
      | none => false
    | 3 => match vs[v.toNat]? with
      | some x => decide (0 < x.dim) && x.kind == q && fitsA vs l 0 1
      | none => false
    | 6 => t == q && (fitsA vs l 0 1 || fitsA vs l 0 2 || fitsA vs l 0 3)
    | 4 => if o = 26 then q == 3 && fitsA vs l 0 3 else q == 1 && fitsA vs l 0 1
    | _ =>
      if o ≤ 13 then q == 1 && (fitsA vs l 0 1 && fitsA vs l 1 1)
      else if q ≠ 3 then false
      else if o = 14 ∨ o = 15 then (fitsA vs l 0 1 && fitsA vs l 1 1) || (fitsA vs l 0 2 && fitsA vs l 1 2) || (fitsA vs l 0 3 && fitsA vs l 1 3)
      else if o ≤ 19 then (fitsA vs l 0 1 && fitsA vs l 1 1) || (fitsA vs l 0 2 && fitsA vs l 1 2)
      else if o = 22 then fitsA vs l 0 1 && fitsA vs l 1 1
      else fitsA vs l 0 3 && fitsA vs l 1 3
/-- One of some expressions fits a kind. -/
def fitsA (vs : List KVar) : List KE → Nat → Nat → Bool
  | [], _, _ => false
  | e :: _, 0, q => fitsB vs e q
  | _ :: l, i + 1, q => fitsA vs l i q
end
theorem fitsA_get {vs : List KVar} : ∀ {l : List KE} {i q : Nat} {e : KE}, l[i]? = some e → fitsA vs l i q = fitsB vs e q
  | [], i, q, e, h => by simp at h
  | x :: l, 0, q, e, h => by simp at h; subst h; rw [fitsA]
  | x :: l, i + 1, q, e, h => by rw [fitsA]; exact fitsA_get (l := l) (by simpa using h)
def FitsB (vs : List KVar) (e : KE) (q : Nat) : Bool := validE e && fitsB vs e q
/-- A place is one of a variable of a kind. -/
def placeB (vs : List KVar) (p : KPl) (q : Nat) : Bool :=
  if p.v < 0 then false else match vs[p.v.toNat]? with
  | none => false
  | some x => x.kind == q && (if x.dim = 0 then decide (p.l.length = 0) else match p.l with
    | [e] => FitsB vs e 1
    | _ => false)
/-- An item of a kind may go over a channel that is not another one. -/
def channelB (nc : Nat) (c : Int) (item : Nat) (no : Int) : Bool := decide (0 ≤ c ∧ c < nc ∧ c ≠ no) && primB item && (decide (1 < c) || item == 1)
def inputB (vs : List KVar) (nc : Nat) (c : Int) (item : Nat) (p : KPl) : Bool := channelB nc c item 1 && placeB vs p item
/-- An expression that is not used. -/
def noneB (e : KE) : Bool := decide (e.kind = 0 ∧ e.oper = 0 ∧ e.tk = 0 ∧ e.n = 0 ∧ e.v = 0 ∧ e.l.length = 0)
def noIn (g : KG) : Bool := decide (g.c = 0 ∧ g.item = 0 ∧ g.dst.v = 0 ∧ g.dst.l.length = 0)
/-- A guard, but for its body, is one of a choice (KpIf), or of another process. -/
def guardB (vs : List KVar) (nc : Nat) (choice : Bool) (g : KG) : Bool :=
  decide (g.body.length = 1) && FitsB vs g.cond 3 &&
  match g.kind with
  | 1 => choice && noneB g.time && noIn g
  | 2 => !choice && noneB g.time && noIn g
  | 3 => !choice && noneB g.time && inputB vs nc g.c g.item g.dst
  | 4 => !choice && noIn g && FitsB vs g.time 1
  | _ => false
/-- Which fields a process uses, and how many parts there are. -/
def shapeB (p : KP) (ch v : Bool) (t0 t1 e0 e1 g0 g1 l0 l1 : Nat) : Bool :=
  (ch || decide (p.c = 0 ∧ p.item = 0)) && (v || decide (p.v = 0)) && decide (t0 ≤ p.tos.length ∧ p.tos.length ≤ t1) && decide (e0 ≤ p.e.length ∧ p.e.length ≤ e1) &&
    decide (g0 ≤ p.g.length ∧ p.g.length ≤ g1) && decide (l0 ≤ p.l.length ∧ p.l.length ≤ l1)
def assignsB (vs : List KVar) : List KPl → List KE → Bool
  | [], [] => true
  | t :: ts, e :: es => (if t.v < 0 then false else match vs[t.v.toNat]? with
      | none => false
      | some x => placeB vs t x.kind && FitsB vs e x.kind) && assignsB vs ts es
  | _, _ => false
def placeA (vs : List KVar) (l : List KPl) (q : Nat) : Bool := match l[0]? with
  | some p => placeB vs p q
  | none => false
def inputA (vs : List KVar) (nc : Nat) (c : Int) (item : Nat) (l : List KPl) : Bool := match l[0]? with
  | some p => inputB vs nc c item p
  | none => false
def FitsA (vs : List KVar) (l : List KE) (q : Nat) : Bool := match l[0]? with
  | some e => FitsB vs e q
  | none => false
/-- A process is right, but for what is inside it. -/
def checkB (vs : List KVar) (nc : Nat) (p : KP) : Bool :=
  match p.kind with
  | 1 => shapeB p false false 0 0 0 0 0 0 0 0
  | 2 => shapeB p false false 0 0 0 0 0 0 0 0
  | 3 => shapeB p false true 0 0 0 0 0 0 0 0 && decide (0 ≤ p.v ∧ p.v < vs.length)
  | 4 => shapeB p false false 1 8 1 8 0 0 0 0 && decide (p.tos.length = p.e.length) && assignsB vs p.tos p.e
  | 5 => shapeB p true false 1 1 0 0 0 0 0 0 && inputA vs nc p.c p.item p.tos
  | 6 => shapeB p true false 0 0 1 1 0 0 0 0 && channelB nc p.c p.item 0 && FitsA vs p.e p.item
  | 7 => shapeB p false false 1 1 0 0 0 0 0 0 && placeA vs p.tos 1
  | 8 => shapeB p false false 0 0 1 1 0 0 0 0 && FitsA vs p.e 1
  | 9 => shapeB p false false 0 0 0 0 0 0 0 2048
  | 10 => shapeB p false false 0 0 0 0 0 0 0 16
  | 11 => shapeB p false false 0 0 0 0 0 0 2 2
  | 12 => shapeB p false false 0 0 0 0 0 16 0 0 && p.g.all (guardB vs nc true)
  | 13 => shapeB p false false 0 0 1 1 0 0 1 1 && FitsA vs p.e 3
  | 14 => shapeB p false false 0 0 0 0 0 16 0 0 && p.g.all (guardB vs nc false)
  | 15 => shapeB p false false 0 0 0 0 0 16 0 0 && p.g.all (guardB vs nc false)
  | _ => false
mutual
/-- How many of so many processes are left after those in p; none: p is not right. -/
def roomP (vs : List KVar) (nc : Nat) (deep : Nat) (high : Bool) (left : Nat) : KP → Option Nat
  | ⟨kind, c, v, item, At, ct, tos, Ae, ce, e, Ag, cg, g, Al, cl, l⟩ =>
    if decide (32 ≤ deep) || decide (left = 0) || !checkB vs nc ⟨kind, c, v, item, At, ct, tos, Ae, ce, e, Ag, cg, g, Al, cl, l⟩ || (high && kind == 11) then none
    else match roomPs vs nc (deep + 1) high (kind == 11) (left - 1) l with
      | none => none
      | some m => roomGs vs nc (deep + 1) high m g
/-- The same of some processes; first: the next one is the high one of a KpPriPar. -/
def roomPs (vs : List KVar) (nc : Nat) (deep : Nat) (high first : Bool) (left : Nat) : List KP → Option Nat
  | [] => some left
  | p :: l => match roomP vs nc deep (high || first) left p with
    | none => none
    | some m => roomPs vs nc deep high false m l
def roomGs (vs : List KVar) (nc : Nat) (deep : Nat) (high : Bool) (left : Nat) : List KG → Option Nat
  | [] => some left
  | g :: l => match roomG vs nc deep high left g with
    | none => none
    | some m => roomGs vs nc deep high m l
/-- The same of a guard's body. -/
def roomG (vs : List KVar) (nc : Nat) (deep : Nat) (high : Bool) (left : Nat) : KG → Option Nat
  | ⟨_, _, _, _, _, _, _, _, body⟩ => match body with
    | [] => none
    | p :: _ => roomP vs nc deep high left p
end
/-- A kernel. -/
structure KK where
  Av : Option Addr
  cv : Nat
  vars : List KVar
  Ac : Option Addr
  cc : Nat
  chans : List Nat
  root : KP
  Ap : Option Addr
  cp : Nat
  procs : List Int
def placedB (k : KK) : Bool :=
  decide (k.procs.length = 0) || (decide (k.procs.Nodup) && k.procs.all (fun n => decide (0 ≤ n ∧ n < 8)) && k.root.kind == 10 && decide (k.root.l.length = k.procs.length))
def hostB (i h : Nat) : Bool := h == (if i = 0 then 1 else if i = 1 then 2 else 0)
def hostsB : Nat → List Nat → Bool
  | _, [] => true
  | i, h :: l => hostB i h && hostsB (i + 1) l
def mayK (k : KK) : Bool :=
  decide (k.vars.length ≤ 256 ∧ 2 ≤ k.chans.length ∧ k.chans.length ≤ 64) && placedB k && k.vars.all (fun x => primB x.kind && decide (0 ≤ x.dim ∧ x.dim ≤ 64)) && hostsB 0 k.chans &&
    (roomP k.vars k.chans.length 0 false 2048 k.root).isSome
end Go.Proofs.YtbefmlioampgcaaGreatDoor

/- Plain lemmas: what the reading of an argument says of its cells (integers, strings, bools, structs, arrays, slices). -/
namespace Go.Proofs.YtbefmlioampgcaaGreatDoor
open Go.RowKit
set_option linter.unusedVariables false
set_option linter.unusedSimpArgs false

section
variable {H : Type} {enc : TypeId × Value → H} {P : Program} {w : World} {base : Nat} {sp : Nat → Bool} {held : Bool} {fuel : Nat} {t : TypeId} {cs : List Value} {y : DataW H × List MemPlace}
theorem trod_int_inv {k : IntKind} (ht : P.underlying t = some (.int k)) (h : DataW.trod enc P w base sp held fuel t cs = some y) : ∃ n, cs = [.int k n] ∧ (Lit.int k n).wf = true := by
  cases fuel with
  | zero => cases h
  | succ f =>
    simp only [DataW.trod, ht] at h
    split at h
    all_goals first
      | (cases h; done)
      | (rename_i e; cases e; done)
      | (rename_i e; injection e with e; injection e with e; subst e
         split at h
         · rename_i hk
           obtain ⟨rfl, hw⟩ := hk
           exact ⟨_, rfl, hw⟩
         · cases h)
theorem trod_string_inv (ht : P.underlying t = some .string) (h : DataW.trod enc P w base sp held fuel t cs = some y) : ∃ s, cs = [.string s] ∧ s.size ≤ maxLen := by
  cases fuel with
  | zero => cases h
  | succ f =>
    simp only [DataW.trod, ht] at h
    split at h
    all_goals first
      | (cases h; done)
      | (rename_i e; cases e; done)
      | (split at h
         · rename_i hk
           exact ⟨_, rfl, hk⟩
         · cases h)
theorem mapM_range_some {α : Type} {f : Nat → Option α} : ∀ {n : Nat} {l : List α}, (List.range n).mapM f = some l → l.length = n ∧ ∀ i, i < n → f i = l[i]? := by
  intro n
  induction n with
  | zero => intro l h; simp at h; subst h; exact ⟨rfl, fun i hi => by omega⟩
  | succ n ih =>
    intro l h
    rw [List.range_succ, List.mapM_append] at h
    cases h1 : (List.range n).mapM f with
    | none => rw [h1] at h; cases h
    | some l1 =>
      rw [h1] at h
      cases h2 : f n with
      | none => simp [h2] at h
      | some z =>
        simp [h2] at h
        subst h
        obtain ⟨hl, hi⟩ := ih h1
        refine ⟨by simp [hl], fun i hi' => ?_⟩
        rcases Nat.lt_or_ge i n with hlt | hge
        · rw [List.getElem?_append_left (by omega)]; exact hi i hlt
        · obtain rfl : i = n := by omega
          rw [List.getElem?_append_right (by omega), hl]; simpa using h2
theorem cells_inv {a : Addr} {n : Nat} {c : List Value} (h : w.cells? base a n = some c) : c.length = n ∧ ∀ j u, c[j]? = some u → w.cell? (a.add j) = some u := by
  obtain ⟨_, hl, hc⟩ := World.cells?_some h
  refine ⟨hl, fun j u hu => ?_⟩
  have hj := (List.getElem?_eq_some_iff.1 hu).1
  rw [hc j (by omega), hu]
end
end Go.Proofs.YtbefmlioampgcaaGreatDoor

/- How arguments in memory read, with what they weigh. -/
namespace Go.Proofs.YtbefmlioampgcaaGreatDoor
open Go.RowKit
set_option linter.unusedVariables false
set_option linter.unusedSimpArgs false

section
variable {P : Program} {H : Type} {enc : TypeId × Value → H} {w : World} {base : Nat} {sp : Nat → Bool} {held : Bool} {fuel : Nat} {t : TypeId} {cs : List Value} {y : DataW H × List MemPlace}
/-- Nothing in a datum weighs more than can be reached. -/
def Light (P : Program) (t : TypeId) (d : DataW H) : Prop := ∀ n ∈ d.weights P t, n ≤ reachBytes
theorem trod_string_inv2 (ht : P.underlying t = some .string) (h : DataW.trod enc P w base sp held fuel t cs = some y) : ∃ s : ByteArray, cs = [.string s] ∧ y.1 = .lit (.string s.data.toList) := by
  obtain ⟨s, rfl, hs⟩ := trod_string_inv ht h
  cases fuel with
  | zero => cases h
  | succ f =>
    simp only [DataW.trod, ht] at h
    rw [if_pos hs] at h
    injection h with h
    exact ⟨s, rfl, by rw [← h]⟩
theorem Light.elem {e : TypeId} {elems spare : List (DataW H)} (ht : P.underlying t = some (.slice e)) (h : Light P t (.slice elems spare)) {i : Nat} {d : DataW H} (hd : elems[i]? = some d) : Light P e d := by
  intro n hn
  refine h n ?_
  simp only [DataW.weights, ht]
  refine List.mem_cons_of_mem _ (List.mem_append_left _ ?_)
  have : ∀ (l : List (DataW H)) (i : Nat), l[i]? = some d → n ∈ DataW.weightsAll P e l := by
    intro l
    induction l with
    | nil => intro i hi; simp at hi
    | cons x r ih =>
      intro i hi
      rw [DataW.weightsAll]
      cases i with
      | zero => simp at hi; subst hi; exact List.mem_append_left _ hn
      | succ i => exact List.mem_append_right _ (ih i (by simpa using hi))
  exact this elems i hd
theorem Light.part {fs : Array Field} {parts : List (DataW H)} (ht : P.underlying t = some (.struct fs)) (h : Light P t (.agg parts)) {j : Nat} {x : Field} {d : DataW H} (hx : fs.toList[j]? = some x) (hd : parts[j]? = some d) : Light P x.type d := by
  intro n hn
  refine h n ?_
  simp only [DataW.weights, ht]
  exact DataW.weights_mem_each (j := j) (by rw [List.getElem?_map, hx]; rfl) hd n hn
theorem Light.str {l : List UInt8} (h : Light P t (.lit (.string l) : DataW H)) : l.length ≤ 281474976710656 := by
  have h1 := h l.length (by simp [DataW.weights])
  have h2 := reachBytes_lt
  omega
theorem Light.count {e : TypeId} {elems spare : List (DataW H)} (ht : P.underlying t = some (.slice e)) (h : Light P t (.slice elems spare)) : elems.length * P.bytesOf e ≤ reachBytes := by
  have h1 := h ((elems.length + spare.length) * P.bytesOf e) (by simp [DataW.weights, ht])
  have h2 : elems.length * P.bytesOf e ≤ (elems.length + spare.length) * P.bytesOf e := Nat.mul_le_mul_right _ (by omega)
  omega
theorem Light.arg {ts : List TypeId} {ds : List (DataW H)} (h : (DataW.weightsEach P ts ds).all (· ≤ reachBytes) = true) {j : Nat} {d : DataW H} (ht : ts[j]? = some t) (hd : ds[j]? = some d) : Light P t d := by
  intro n hn
  have := List.all_eq_true.1 h n (DataW.weights_mem_each ht hd n hn)
  simpa using this
theorem flat_get {cells : Nat → List Value} {size : Nat} : ∀ {n : Nat}, (∀ i, i < n → (cells i).length = size) →
    ((List.range n).flatMap cells).length = n * size ∧ ∀ (j : Nat) (u : Value), ((List.range n).flatMap cells)[j]? = some u → ∃ i r, i < n ∧ j = i * size + r ∧ (cells i)[r]? = some u
  | 0, _ => ⟨by simp, fun j u h => by simp at h⟩
  | n + 1, hl => by
    obtain ⟨h1, h2⟩ := flat_get (n := n) (fun i hi => hl i (by omega))
    rw [List.range_succ, List.flatMap_append]
    have e : List.flatMap cells [n] = cells n := by simp
    rw [e]
    refine ⟨by rw [List.length_append, h1, hl n (by omega), Nat.succ_mul], fun j u h => ?_⟩
    rcases Nat.lt_or_ge j (n * size) with hlt | hge
    · rw [List.getElem?_append_left (by omega)] at h
      obtain ⟨i, r, hi, hj, hu⟩ := h2 j u h
      exact ⟨i, r, by omega, hj, hu⟩
    · rw [List.getElem?_append_right (by omega), h1] at h
      exact ⟨n, j - n * size, by omega, by omega, h⟩
theorem Reads.of_rows {B size n : Nat} {a : Addr} {cells : Nat → List Value} (hl : ∀ i, i < n → (cells i).length = size) (hc : ∀ i, i < n → ∀ j u, (cells i)[j]? = some u → w.cell? ((a.add (i * size)).add j) = some u)
    (hb : 0 < n → a.block < B) : Reads w B size (some a) n ((List.range n).flatMap cells) := by
  obtain ⟨h1, h2⟩ := flat_get hl
  refine ⟨h1, fun hn => ⟨a, rfl, hb hn, fun j u hu => ?_⟩⟩
  obtain ⟨i, r, hi, rfl, hu'⟩ := h2 j u hu
  rw [← add_of_add]
  exact hc i hi r u hu'
end
end Go.Proofs.YtbefmlioampgcaaGreatDoor

/- How kernels that came in read: expressions, places, guards, processes. -/
namespace Go.Proofs.YtbefmlioampgcaaGreatDoor
open Go.ChangeShapes Go.WideShapes Go.ChangeAt Go.RowKit

section
variable {H : Type} {enc : TypeId × Value → H} {P : Program} {w : World} {base : Nat} {sp : Nat → Bool} {held : Bool} {fuel : Nat} {t : TypeId} {cs : List Value} {y : DataW H × List MemPlace}
theorem reach_47 : reachBytes ≤ 140737488355328 := by decide
theorem trod_slice_lt {e : TypeId} (ht : P.underlying t = some (.slice e)) (h : DataW.trod enc P w base sp held fuel t cs = some y) :
    cs = [.slice none 0 0] ∨ ∃ a len cap f elems spare, f < fuel ∧ cs = [.slice (some a) len cap] ∧ len ≤ cap ∧ cap ≤ maxLen ∧ y.1 = .slice elems spare ∧
      ∀ i, i < len → ∃ c z, w.cells? base (a.add (i * P.cellsOf e)) (P.cellsOf e) = some c ∧ DataW.trod enc P w base sp held f e c = some z ∧ elems[i]? = some z.1 := by
  cases fuel with
  | zero => cases h
  | succ f =>
    simp only [DataW.trod, ht] at h
    split at h
    all_goals first
      | (cases h; done)
      | (rename_i e; cases e; done)
      | (rename_i e; injection e with e; injection e with e; subst e; exact .inl rfl)
      | (rename_i e; injection e with e; injection e with e; subst e
         split at h
         · rename_i hk
           cases h1 : (List.range _).mapM (fun i => (w.cells? base (Addr.add _ (i * P.cellsOf _)) (P.cellsOf _)).bind (DataW.trod enc P w base sp held f _)) with
           | none => rw [h1] at h; cases h
           | some l =>
             rw [h1] at h
             simp only [Option.bind_some] at h
             obtain ⟨rest, -, hy⟩ := Option.map_eq_some_iff.1 h
             refine .inr ⟨_, _, _, f, l.map (·.1), rest.map (·.1), Nat.lt_succ_self _, rfl, hk.2.1, hk.2.2, by rw [← hy], ?_⟩
             intro i hi
             have h2 := (mapM_range_some h1).2 i hi
             have hl := (mapM_range_some h1).1
             rw [List.getElem?_eq_getElem (by omega)] at h2
             obtain ⟨c, hc, hz⟩ := Option.bind_eq_some_iff.1 h2
             exact ⟨c, _, hc, hz, by rw [List.getElem?_map, List.getElem?_eq_getElem (by omega)]; rfl⟩
         · cases h)
theorem trod_struct_lt {fs : Array Field} (ht : P.underlying t = some (.struct fs)) (h : DataW.trod enc P w base sp held fuel t cs = some y) :
    ∃ f parts, f < fuel ∧ cs.length = P.cellsOf t ∧ y.1 = .agg parts ∧ ∀ (j : Nat) (x : Field), fs.toList[j]? = some x → ∃ z, DataW.trod enc P w base sp held f x.type ((cs.drop x.offset).take (P.cellsOf x.type)) = some z ∧ parts[j]? = some z.1 := by
  cases fuel with
  | zero => cases h
  | succ f =>
    simp only [DataW.trod, ht] at h
    split at h
    · rename_i hk
      obtain ⟨l, h1, hy⟩ := Option.map_eq_some_iff.1 h
      refine ⟨f, l.map (·.1), Nat.lt_succ_self _, hk, by rw [← hy], ?_⟩
      clear h hy
      generalize fs.toList = xs at h1
      induction xs generalizing l with
      | nil => intro j x hx; simp at hx
      | cons x r ih =>
        rw [List.mapM_cons] at h1
        cases h2 : DataW.trod enc P w base sp held f x.type ((cs.drop x.offset).take (P.cellsOf x.type)) with
        | none => rw [h2] at h1; cases h1
        | some z =>
          rw [h2] at h1
          cases h3 : List.mapM (fun x : Field => DataW.trod enc P w base sp held f x.type ((cs.drop x.offset).take (P.cellsOf x.type))) r with
          | none => rw [h3] at h1; cases h1
          | some l' =>
            rw [h3] at h1
            injection h1 with h1
            subst h1
            intro j x' hx'
            cases j with
            | zero => simp at hx'; subst hx'; exact ⟨z, h2, rfl⟩
            | succ j => exact ih l' h3 j x' (by simpa using hx')
    · cases h
/-- A slice whose elements read each as one of α. -/
theorem open_row {e : TypeId} {α : Type} [Inhabited α] {R : α → Prop} {cells : α → List Value} {size : Nat} (hsz : P.cellsOf e = size) (hpos : 0 < size) (hlen : ∀ x, (cells x).length = size) (ht : P.underlying t = some (.slice e)) (hb : 0 < P.bytesOf e)
    (hone : ∀ (f : Nat) (c : List Value) (z : DataW H × List MemPlace), f < fuel → DataW.trod enc P w base sp held f e c = some z → Light P e z.1 → ∃ x, c = cells x ∧ R x)
    (h : DataW.trod enc P w base sp held fuel t cs = some y) (hw : Light P t y.1) :
    ∃ (A : Option Addr) (c : Nat) (xs : List α), cs = [.slice A xs.length c] ∧ lenOk xs ∧ Reads w w.heap.size size A xs.length (xs.flatMap cells) ∧ (∀ x ∈ xs, R x) := by
  rcases trod_slice_lt ht h with rfl | ⟨a, m, cap, f, elems, spare, hf, rfl, h3, h4, hy, h5⟩
  · exact ⟨none, 0, [], rfl, by simp [lenOk], Reads.none_, by simp⟩
  · rw [hsz] at h5
    rw [hy] at hw
    have hm : m ≤ elems.length := by
      rcases Nat.lt_or_ge elems.length m with hlt | hge
      · obtain ⟨c', z, -, -, he⟩ := h5 elems.length hlt
        rw [List.getElem?_eq_none (Nat.le_refl _)] at he
        cases he
      · exact hge
    have hcount := hw.count ht
    have h6 : ∀ i, ∃ x : α, i < m → w.cells? base (a.add (i * size)) size = some (cells x) ∧ R x := fun i => by
      by_cases hi : i < m
      · obtain ⟨c, z, hc, hz, he⟩ := h5 i hi
        obtain ⟨x, rfl, hr⟩ := hone f c z hf hz (hw.elem ht he)
        exact ⟨x, fun _ => ⟨hc, hr⟩⟩
      · exact ⟨default, fun h => (hi h).elim⟩
    obtain ⟨g, hg⟩ := Classical.axiomOfChoice h6
    refine ⟨some a, cap, (List.range m).map g, by simp, ?_, ?_, ?_⟩
    · have h7 : elems.length * 1 ≤ elems.length * P.bytesOf e := Nat.mul_le_mul_left _ hb
      have := reach_47
      simp only [lenOk, List.length_map, List.length_range]
      omega
    · have e : ((List.range m).map g).flatMap cells = (List.range m).flatMap fun i => cells (g i) := by simp [List.flatMap_map]
      rw [e]
      simp only [List.length_map, List.length_range]
      refine Reads.of_rows (fun i _ => hlen _) (fun i hi j u hu => ?_) (fun hm => ?_)
      · exact (cells_inv (hg i hi).1).2 j u hu
      · have := World.cells?_block (hg 0 hm).1 hpos
        rwa [block_of_add] at this
    · intro x hx
      obtain ⟨i, hi, rfl⟩ := List.mem_map.1 hx
      exact (hg i (List.mem_range.1 hi)).2
theorem i32_wf {a : Int} (h : (Lit.int .i32 a).wf = true) : i32ok a := by
  have := (Lit.wf_int_iff _ _).1 h
  simp [IntKind.min, IntKind.max, IntKind.signed, IntKind.bits] at this
  unfold i32ok
  omega
theorem i64_wf {a : Int} (h : (Lit.int .i64 a).wf = true) : i64ok a := by
  have := (Lit.wf_int_iff _ _).1 h
  simp [IntKind.min, IntKind.max, IntKind.signed, IntKind.bits] at this
  unfold i64ok
  omega
theorem u8_wf {a : Int} (h : (Lit.int .u8 a).wf = true) : ∃ k : Nat, a = k ∧ k ≤ 255 := by
  have := (Lit.wf_int_iff _ _).1 h
  simp [IntKind.min, IntKind.max, IntKind.signed, IntKind.bits] at this
  exact ⟨a.toNat, by omega, by omega⟩
theorem fsKE : Tryz.prog.underlying 27 = some (.struct #[⟨ "Kind", 22, 0, false, "", "", 0⟩, ⟨ "Oper", 23, 1, false, "", "", 1⟩, ⟨ "To", 24, 2, false, "", "", 2⟩, ⟨ "N", 21, 3, false, "", "", 4⟩, ⟨ "V", 3, 4, false, "", "", 8⟩, ⟨ "L", 25, 5, false, "", "", 16⟩]) := by kernel_rfl
theorem fsVar : Tryz.prog.underlying 67 = some (.struct #[⟨ "Kind", 24, 0, false, "", "", 0⟩, ⟨ "Dim", 3, 1, false, "", "", 8⟩]) := by kernel_rfl
theorem cK1 : Tryz.prog.cellsOf 22 = 1 := by kernel_rfl
theorem cK2 : Tryz.prog.cellsOf 23 = 1 := by kernel_rfl
theorem cK3 : Tryz.prog.cellsOf 24 = 1 := by kernel_rfl
theorem cK4 : Tryz.prog.cellsOf 21 = 1 := by kernel_rfl
theorem cK5 : Tryz.prog.cellsOf 3 = 1 := by kernel_rfl
theorem cK6 : Tryz.prog.cellsOf 25 = 1 := by kernel_rfl
theorem cK7 : Tryz.prog.cellsOf 27 = 6 := by kernel_rfl
theorem cK16 : Tryz.prog.cellsOf 67 = 2 := by kernel_rfl
theorem cK17 : Tryz.prog.cellsOf 28 = 1 := by kernel_rfl
theorem cK19 : Tryz.prog.cellsOf 30 = 1 := by kernel_rfl
theorem list6 {α : Type} {l : List α} (h : l.length = 6) : ∃ a b c d e f, l = [a, b, c, d, e, f] := by
  match l, h with
  | [a, b, c, d, e, f], _ => exact ⟨a, b, c, d, e, f, rfl⟩
set_option maxRecDepth 100000 in
theorem open_kes_of (hE : ∀ (f : Nat) (c : List Value) (z : DataW H × List MemPlace), f < fuel → DataW.trod enc Tryz.prog w base sp held f 27 c = some z → Light Tryz.prog 27 z.1 → ∃ x : KE, c = x.cells.toList ∧ x.In w w.heap.size)
    (h : DataW.trod enc Tryz.prog w base sp held fuel 25 cs = some y) (hw : Light Tryz.prog 25 y.1) : ∃ (A : Option Addr) (c : Nat) (l : List KE), cs = [.slice A l.length c] ∧ kesIn w w.heap.size A l := by
  obtain ⟨A, c, l, h1, h2, h3, h4⟩ := open_row (α := KE) (R := KE.In w w.heap.size) (cells := fun x => x.cells.toList) (size := 6) cK7 (by decide) KE.cells_len Tryz.underlying25 (of_decide_eq_true (by kernel_rfl)) hE h hw
  exact ⟨A, c, l, h1, h2, h3, h4⟩
set_option maxRecDepth 100000 in
theorem open_ke : ∀ (fuel : Nat) (cs : List Value) (y : DataW H × List MemPlace), DataW.trod enc Tryz.prog w base sp held fuel 27 cs = some y → Light Tryz.prog 27 y.1 → ∃ x : KE, cs = x.cells.toList ∧ x.In w w.heap.size := by
  intro fuel
  induction fuel using Nat.strongRecOn with
  | ind fuel ih =>
    intro cs y h hw
    obtain ⟨f, parts, hf, hl, hy, hx⟩ := trod_struct_lt fsKE h
    rw [hy] at hw
    rw [cK7] at hl
    obtain ⟨v0, v1, v2, v3, v4, v5, rfl⟩ := list6 hl
    obtain ⟨z0, h0, -⟩ := hx 0 _ rfl
    obtain ⟨z1, h1, -⟩ := hx 1 _ rfl
    obtain ⟨z2, h2, -⟩ := hx 2 _ rfl
    obtain ⟨z3, h3, -⟩ := hx 3 _ rfl
    obtain ⟨z4, h4, -⟩ := hx 4 _ rfl
    obtain ⟨z5, h5, q5⟩ := hx 5 _ rfl
    have l5 := hw.part fsKE (j := 5) rfl q5
    simp only [cK1, cK2, cK3, cK4, cK5, cK6] at h0 h1 h2 h3 h4 h5 l5
    simp only [List.drop_succ_cons, List.drop_zero, List.take_succ_cons, List.take_zero] at h0 h1 h2 h3 h4 h5
    obtain ⟨a0, e0, w0⟩ := trod_int_inv Tryz.underlying22 h0
    obtain ⟨a1, e1, w1⟩ := trod_int_inv Tryz.underlying23 h1
    obtain ⟨a2, e2, w2⟩ := trod_int_inv Tryz.underlying24 h2
    obtain ⟨a3, e3, w3⟩ := trod_int_inv Tryz.underlying21 h3
    obtain ⟨a4, e4, w4⟩ := trod_int_inv Tryz.underlying3 h4
    obtain ⟨A, c, l, e5, hin⟩ := open_kes_of (fuel := f) (fun f' c z hf' => ih f' (by omega) c z) h5 l5
    injection e0 with e0; injection e1 with e1; injection e2 with e2; injection e3 with e3; injection e4 with e4; injection e5 with e5
    subst e0 e1 e2 e3 e4 e5
    obtain ⟨b0, rfl, c0⟩ := u8_wf w0
    obtain ⟨b1, rfl, c1⟩ := u8_wf w1
    obtain ⟨b2, rfl, c2⟩ := u8_wf w2
    exact ⟨⟨b0, b1, b2, a3, a4, A, c, l⟩, rfl, KE.all_iff.2 ⟨⟨⟨c0, c1, c2, i32_wf w3, i64_wf w4, hin.1⟩, hin.2.1⟩, hin.2.2⟩⟩
/-- A variable's cells. -/
def KVar.cells (x : KVar) : Array Value := #[.int .u8 x.kind, .int .i64 x.dim]
instance : Inhabited KVar := ⟨⟨0, 0⟩⟩
def varsC (l : List KVar) : List Value := l.flatMap fun x => x.cells.toList
def hostsC (l : List Nat) : List Value := l.flatMap fun x => [Value.int .u8 (x : Nat)]
def intsC (l : List Int) : List Value := l.flatMap fun x => [Value.int .i64 x]
/-- A kernel's own parts in a world. -/
def KK.In (w : World) (B : Nat) (k : KK) : Prop :=
  (lenOk k.vars ∧ Reads w B 2 k.Av k.vars.length (varsC k.vars) ∧ ∀ x ∈ k.vars, x.kind ≤ 255 ∧ i64ok x.dim) ∧ (lenOk k.chans ∧ Reads w B 1 k.Ac k.chans.length (hostsC k.chans) ∧ ∀ x ∈ k.chans, x ≤ 255) ∧
    k.root.In w B ∧ (lenOk k.procs ∧ Reads w B 1 k.Ap k.procs.length (intsC k.procs) ∧ ∀ x ∈ k.procs, i64ok x)
def KK.row (k : KK) : List Value := .slice k.Av k.vars.length k.cv :: .slice k.Ac k.chans.length k.cc :: k.root.cells.toList ++ [.slice k.Ap k.procs.length k.cp]
def KK.cells (k : KK) : Array Value := #[.slice k.Av k.vars.length k.cv, .slice k.Ac k.chans.length k.cc, .agg k.root.cells, .slice k.Ap k.procs.length k.cp]
theorem KK.In.below {w' : World} {B : Nat} {k : KK} (h : k.In w B) (hb : Below B w w') : k.In w' B :=
  ⟨⟨h.1.1, h.1.2.1.below hb, h.1.2.2⟩, ⟨h.2.1.1, h.2.1.2.1.below hb, h.2.1.2.2⟩, h.2.2.1.below hb, h.2.2.2.1, h.2.2.2.2.1.below hb, h.2.2.2.2.2⟩
theorem KK.In.more {B B' : Nat} {k : KK} (h : k.In w B) (hB : B ≤ B') : k.In w B' :=
  ⟨⟨h.1.1, h.1.2.1.more hB, h.1.2.2⟩, ⟨h.2.1.1, h.2.1.2.1.more hB, h.2.1.2.2⟩, h.2.2.1.more hB, h.2.2.2.1, h.2.2.2.2.1.more hB, h.2.2.2.2.2⟩
set_option maxRecDepth 100000 in
theorem open_var (h : DataW.trod enc Tryz.prog w base sp held fuel 67 cs = some y) : ∃ x : KVar, cs = x.cells.toList ∧ x.kind ≤ 255 ∧ i64ok x.dim := by
  obtain ⟨f, parts, hf, hl, hy, hx⟩ := trod_struct_lt fsVar h
  rw [cK16] at hl
  match cs, hl with
  | [v0, v1], _ =>
    obtain ⟨z0, h0, -⟩ := hx 0 _ rfl
    obtain ⟨z1, h1, q1⟩ := hx 1 _ rfl
    simp only [cK5, cK3] at h0 h1
    simp only [List.drop_succ_cons, List.drop_zero, List.take_succ_cons, List.take_zero] at h0 h1
    obtain ⟨a0, e0, w0⟩ := trod_int_inv Tryz.underlying24 h0
    obtain ⟨a1, e1, w1⟩ := trod_int_inv Tryz.underlying3 h1
    injection e0 with e0; injection e1 with e1
    subst e0 e1
    obtain ⟨b0, rfl, c0⟩ := u8_wf w0
    exact ⟨⟨b0, a1⟩, rfl, c0, i64_wf w1⟩
end
end Go.Proofs.YtbefmlioampgcaaGreatDoor

/- Small functions on kernels, walked: primitive, fields of an expression. -/
namespace Go.Proofs.YtbefmlioampgcaaGreatDoor
open Go.RowKit
set_option linter.unusedSimpArgs false
set_option linter.unusedVariables false

/-- A value, and the world as it was. -/
def RetE (v : Value) (w : World) (e : Ending) (w' : World) : Prop := e = .returned v ∧ w = w'
theorem two_blocks (w : World) (x y : Array Value) (t u : TypeId) : Below w.heap.size w ((w.alloc (.cells x t)).alloc (.cells y u)) := ((Below.refl _ _).alloc (Nat.le_refl _) _).alloc (by simp) _
theorem ret_bool {a b : Bool} {v : Value} (h : v = .bool a) (h2 : a = b) : Ending.returned v = .returned (.bool b) := by rw [h, h2]
end Go.Proofs.YtbefmlioampgcaaGreatDoor

/- Words on a range over a function: the wide fence, what a round keeps, an invariant that abides new blocks. -/
namespace Go.Proofs.YtbefmlioampgcaaGreatDoor
open Go.RowKit
set_option linter.unusedVariables false
set_option linter.unusedSimpArgs false

theorem arrivesIn_wide {P : Program} {m : Machine} {b : Frame} (hro : b.roundOf = none) {k : List Item} {cs : List Frame} {e : Exit} {a : Act} {w : World} (h : Arrives P m b k cs e a w) :
    ArrivesIn (Machine.fenced P Fence.wide) P m b k cs e a w := by
  have hs : b.roundOf.isSome = true → False := fun h => by rw [hro] at h; cases h
  cases e with
  | normal => exact stepsIn_wide.2 (by rw [Frame.atR_of_none hro]; exact h)
  | exit id => exact ⟨fun k' hk => stepsIn_wide.2 (by rw [Frame.atR_of_none hro]; exact h k' hk), fun h => (hs h).elim⟩
  | goto l => exact ⟨fun k' hk => stepsIn_wide.2 (by rw [Frame.atR_of_none hro]; exact h k' hk), fun h => (hs h).elim⟩
  | ret =>
    obtain ⟨todo, hq⟩ := h
    exact ⟨fun _ => ⟨todo, stepsIn_wide.2 (by rw [Frame.atR_of_none hro]; exact hq)⟩, fun h => (hs h).elim⟩
  | panic chain =>
    obtain ⟨todo, hq⟩ := h
    exact ⟨todo, stepsIn_wide.2 (by rw [Frame.atR_of_none hro]; exact hq)⟩
  | outgrown => exact h
/-- At the wide fence, outside every round, a walk without a fence serves. -/
theorem wpIn_wide_of_wp {P : Program} {n : Nat} {c : Code} {Q : Exit → Act → World → Prop} {a : Act} {w : World} (h : c.wp P Q a w) : c.wpIn Fence.wide n P Q a w := by
  intro b k cs hro hb hr
  obtain ⟨e, a', w', hq, harr⟩ := h b k cs
  refine ⟨e, a', w', hq, arrivesIn_wide hro ?_⟩
  rw [Frame.atR_of_none hro]; exact harr

/-- All blocks of cells but those of X lie as they lay. -/
structure KeepC (X : Nat → Prop) (A B : World) : Prop where
  size : A.heap.size ≤ B.heap.size
  block : ∀ k cs t f, ¬ X k → A.heap[k]? = some (.cells cs t f) → B.heap[k]? = some (.cells cs t f)
theorem KeepC.refl (X : Nat → Prop) (A : World) : KeepC X A A := ⟨Nat.le_refl _, fun _ _ _ _ _ h => h⟩
theorem KeepC.trans {X : Nat → Prop} {A B C : World} (h : KeepC X A B) (k : KeepC X B C) : KeepC X A C :=
  ⟨Nat.le_trans h.size k.size, fun i cs t f hx ho => k.block i cs t f hx (h.block i cs t f hx ho)⟩
theorem KeepC.put (X : Nat → Prop) (W : World) (l : Nat) (o o' : Obj) (h : W.heap[l]? = some o) (hc : o.isCells = false) : KeepC X W (W.putObj l o') := by
  refine ⟨by simp [World.putObj], fun k cs t f _ ho => ?_⟩
  by_cases hk : k = l
  · subst hk; rw [h] at ho; injection ho with ho; subst ho; cases hc
  · rw [World.putObj_heap_other hk]; exact ho
theorem KeepC.alloc (X : Nat → Prop) (A : World) (o : Obj) : KeepC X A (A.alloc o) :=
  ⟨by simp, fun k cs t f _ h => (Below.heap_alloc A o k (Array.getElem?_eq_some_iff.1 h).1).trans h⟩
theorem KeepC.set (X : Nat → Prop) (A : World) {p : Addr} (hp : X p.block) (u : Value) : KeepC X A (A.setCell p u) :=
  ⟨by simp, fun k cs t f hk h => (Below.heap_setCell A p u k (by rintro rfl; exact hk hp)).trans h⟩
end Go.Proofs.YtbefmlioampgcaaGreatDoor

/- A range over a function whose body may leave the loop: one law. -/
namespace Go.Proofs.YtbefmlioampgcaaGreatDoor
open Go.RowKit
set_option linter.unusedVariables false
set_option linter.unusedSimpArgs false

theorem _root_.Go.RowKit.Below.putObj {B : Nat} {a w : World} (h : Below B a w) {b : Nat} (hb : B ≤ b) (o : Obj) : Below B a (w.putObj b o) :=
  h.trans ⟨rfl, rfl, rfl, by simp [World.putObj], fun k hk => World.putObj_heap_other (by omega)⟩
/-- An invariant that speaks of blocks below B alone. -/
def Deep {β : Type} (B : Nat) (J : β → World → Prop) : Prop :=
  ∀ s W W', J s W → Below B W W' → J s W'
/-- The iterator hands over xs, or a part of it where a round has said 'no more', whatever the body does within its word. -/
def SeqUntil {α : Type} (F : Fence) (n : Nat) (P : Program) (gf : Nat) (lb : Array Value) (encs : α → Array Value) (X : Nat → Prop) (xs : List α) (w : World) : Prop :=
  ∀ (l : Nat) (J Jx : List α → World → Prop) (W : World), Below w.heap.size w W → Deep W.heap.size J → Deep W.heap.size Jx →
    (∀ pre x r W1, J pre W1 → xs = pre ++ x :: r → YieldAt F (n - 1) P l (encs x) W1 fun e W' => (e = .returned (.bool true) ∧ J (pre ++ [x]) W' ∧ KeepC X W1 W') ∨ (e = .returned (.bool false) ∧ Jx (pre ++ [x]) W')) →
    J [] W → CallsIn F n P gf (#[.func (.yield l) #[] #[]] ++ lb) W fun e W' => (∃ v, e = .returned v) ∧ (J xs W' ∨ ∃ pre x r, xs = pre ++ x :: r ∧ Jx (pre ++ [x]) W')

def goesOnX (X : Nat → Prop) (W : World) (R : World → Prop) (Rx : Code → World → Prop) : Exit → Act → World → Prop
  | .normal, _, W' => KeepC X W W' ∧ KeepsOthers W W' ∧ R W'
  | .ret, _, W' => KeepsOthers W W' ∧ Rx .ret W'
  | .exit id, _, W' => KeepsOthers W W' ∧ Rx (.exit id) W'
  | .goto t, _, W' => KeepsOthers W W' ∧ Rx (.goto t) W'
  | _, _, _ => False

theorem wpIn_range_until {P : Program} {F : Fence} {n : Nat} {α : Type} {g : Operand} {ps : Array Tmp} {assign body : Code} {Q : Exit → Act → World → Prop} {a : Act} {w : World}
    (hro : F.round = none) (hdp : F.depth = none) {gf : Nat} {lb : Array Value} (hg : a.eval g = .func (.func gf) #[] lb) (hFg : F.fn gf) (eg : ∀ args w, (callFunc gf args).run P w = .ok (.enter gf args) w)
    {encs : α → Array Value} {X : Nat → Prop} {xs : List α} {w0 : World} (hseq : SeqUntil F (n - 1) P gf lb encs X xs w0) (hb0 : Below w0.heap.size w0 w) (hps : ∀ x, (encs x).size = ps.size)
    (I : List α → World → Prop) (Ix : Code → List α → World → Prop) (hI : Deep w.heap.size I) (hIx : ∀ c, Deep w.heap.size (Ix c)) (h0 : I [] w)
    (hround : ∀ (l : Nat) (pre : List α) (x : α) (r : List α) (W : World), I pre W → xs = pre ++ x :: r → w.heap.size + 2 ≤ W.heap.size →
      assign.wpIn (F.inRound l) (n - 1 - 1) P (Exit.then (fun a₁ W1 => KeepC X W W1 ∧ KeepsOthers W W1 ∧
        ∀ W2, W1.grownBy W2 (some l) → (w.heap.size ≤ l ∧ l < w.heap.size + 2) → body.wpIn (F.inRound l) (n - 1 - 1) P (goesOnX X W2 (I (pre ++ [x])) (fun c => Ix c (pre ++ [x]))) a₁ W2) (fun _ _ _ => False))
        { tmps := (ps.zip (encs x)).foldl (fun t (p, v) => t.setIfInBounds p v) a.tmps, defers := [] } W)
    (hdone : ∀ (D : Nat) (W : World), I xs W → W.heap[D]? = some (.deferred (some [])) → w.heap.size ≤ D → Q .normal { a with defers := { target := .collected D, args := #[] } :: a.defers } W)
    (hstop : ∀ (D : Nat) (c : Code) (pre : List α) (x : α) (r : List α) (W : World), xs = pre ++ x :: r → Ix c (pre ++ [x]) W → W.heap[D]? = some (.deferred (some [])) → w.heap.size ≤ D → c.wpIn F n P Q { a with defers := { target := .collected D, args := #[] } :: a.defers } W) :
    (Code.rangeFunc g ps assign body).wpIn F n P Q a w := by
  refine wpIn_rangeFunc ?_
  intro fn hfn
  rw [hro]
  obtain ⟨rec, hrec⟩ : ∃ rec : LoopState → Option Code → Loop, rec = fun st pe => { state := st, pending := pe, fn, tmps := a.tmps, params := ps, assign, body, defers := w.heap.size } := ⟨_, rfl⟩
  obtain ⟨W1, hW1⟩ : ∃ W1, (w.alloc (.deferred (some []))).alloc (.loop (rec .ready none)) = W1 := ⟨_, rfl⟩
  have hsz : W1.heap.size = w.heap.size + 2 := by rw [← hW1]; simp
  have hL1 : W1.heap[w.heap.size + 1]? = some (.loop (rec .ready none)) := by
    rw [← hW1]; have := World.alloc_heap_new (w.alloc (.deferred (some []))) (.loop (rec .ready none)); rwa [World.size_alloc] at this
  have hK1 : W1.heap[w.heap.size]? = some (.deferred (some [])) := by
    rw [← hW1]; exact (Below.heap_alloc _ _ _ (by simp)).trans (World.alloc_heap_new w _)
  have hI1 : I [] W1 := by
    rw [← hW1]
    exact hI _ _ _ h0 (((Below.refl _ _).alloc (Nat.le_refl _) _).alloc (by simp) _)
  have hb1 : Below w0.heap.size w0 W1 := by
    rw [← hW1]; exact hb0.trans ((((Below.refl _ w).alloc (Nat.le_refl _) _).alloc (by simp) _).mono hb0.size)
  refine ⟨w.heap.size + 1, [{ target := .collected w.heap.size, args := #[] }], W1, { target := .fn (.func gf) lb, args := #[.func (.yield (w.heap.size + 1)) #[] #[]] }, W1, gf,
    #[.func (.yield (w.heap.size + 1)) #[] #[]] ++ lb, W1, ?_, ?_, ?_, ?_, (fun h => by rw [hdp] at h; cases h), ?_⟩
  · rw [← hW1, hrec]; exact run_enterLoop_outer _ _ _ _ _
  · simp only [resolve, hg]
    simp [go_sem]
  · intro f' hf'; simp [Target.leads] at hf'; subst hf'; exact hFg
  · simp [invoke, go_sem, eg]
  · refine (hseq (w.heap.size + 1)
      (fun pre W => I pre W ∧ W.heap[w.heap.size + 1]? = some (.loop (rec .ready none)) ∧ W.heap[w.heap.size]? = some (.deferred (some [])) ∧ w.heap.size + 2 ≤ W.heap.size)
      (fun pre W => ∃ c, Ix c pre W ∧ W.heap[w.heap.size + 1]? = some (.loop (rec .done (some c))) ∧ W.heap[w.heap.size]? = some (.deferred (some [])))
      W1 hb1 ?_ ?_ ?_ ⟨hI1, hL1, hK1, by omega⟩).mono ?_
    · rintro s A B ⟨hs, hl, hk, hz⟩ hgr
      refine ⟨hI s A B hs (hgr.mono (by omega)), ?_, ?_, Nat.le_trans hz hgr.size⟩
      · rw [hgr.block _ (by omega)]; exact hl
      · rw [hgr.block _ (by omega)]; exact hk
    · rintro s A B ⟨c, hs, hl, hk⟩ hgr
      refine ⟨c, hIx c s A B hs (hgr.mono (by omega)), ?_, ?_⟩
      · rw [hgr.block _ (by omega)]; exact hl
      · rw [hgr.block _ (by omega)]; exact hk
    · rintro pre x r W ⟨hi, hl, hk, hz⟩ hxs
      have hy := run_yield (P := P) (args := encs x) hl (by rw [hrec]; exact hps x)
      rw [hrec] at hy
      refine ⟨fn, _, assign, body, hy, roundIn_of_wpIn hfn (wpIn_mono (hround (w.heap.size + 1) pre x r W hi hxs hz) ?_)⟩
      rintro e a1 W2 hp
      cases e with
      | normal =>
        obtain ⟨hkx, hlp, hbody⟩ := hp
        have hl2 := hlp.same _ _ hl rfl
        have hk2 := hlp.same _ _ hk rfl
        refine ⟨_, run_beginRound hl2 (by rw [hrec]), ?_⟩
        have hl3 : (W2.putObj (w.heap.size + 1) (.loop { rec .ready none with state := .busy })).heap[w.heap.size + 1]? = some (.loop { rec .ready none with state := .busy }) := World.putObj_heap_same (Array.getElem?_eq_some_iff.1 hl2).1
        have hk3 : (W2.putObj (w.heap.size + 1) (.loop { rec .ready none with state := .busy })).heap[w.heap.size]? = some (.deferred (some [])) := (World.putObj_heap_other (by omega)).trans hk2
        have kx3 := hkx.trans (KeepC.put X W2 _ _ (.loop { rec .ready none with state := .busy }) hl2 rfl)
        have fin : ∀ (jump : Option Code) (W3 : World), KeepsOthers (W2.putObj (w.heap.size + 1) (.loop { rec .ready none with state := .busy })) W3 →
            (Instr.endRound (w.heap.size + 1) jump).run P W3 = .ok (.bool jump.isNone) (W3.putObj (w.heap.size + 1) (.loop (rec (if jump.isNone then .ready else .done) jump))) ∧
            W3.heap[w.heap.size + 1]? = some (.loop { rec .ready none with state := .busy }) ∧
            (W3.putObj (w.heap.size + 1) (.loop (rec (if jump.isNone then .ready else .done) jump))).heap[w.heap.size + 1]? = some (.loop (rec (if jump.isNone then .ready else .done) jump)) ∧
            (W3.putObj (w.heap.size + 1) (.loop (rec (if jump.isNone then .ready else .done) jump))).heap[w.heap.size]? = some (.deferred (some [])) := fun jump W3 hk4 => by
          have hl4 := hk4.same _ _ hl3 rfl
          have := run_endRound (P := P) jump hl4
          rw [hrec] at this ⊢
          exact ⟨this, by rw [hrec] at hl4; exact hl4, World.putObj_heap_same (Array.getElem?_eq_some_iff.1 hl4).1, (World.putObj_heap_other (by omega)).trans (hk4.same _ _ hk3 rfl)⟩
        refine wpIn_mono (hbody _ (grownBy_putObj' W2 _ _) ⟨by omega, by omega⟩) ?_
        rintro e a2 W4 hp4
        cases e with
        | normal =>
          obtain ⟨kx4, lp4, hi4⟩ := hp4
          obtain ⟨hr, hl4, hl5, hk5⟩ := fin none W4 lp4
          refine ⟨_, _, hr, .inl ⟨rfl, ⟨hI _ _ _ hi4 ((Below.refl _ _).putObj (by omega) _), hl5, hk5, ?_⟩, (kx3.trans kx4).trans (KeepC.put X W4 _ _ _ hl4 rfl)⟩⟩
          have h1 := (kx3.trans kx4).size
          simp [World.putObj] at h1 ⊢; omega
        | ret =>
          obtain ⟨lp4, hi4⟩ := hp4
          obtain ⟨hr, hl4, hl5, hk5⟩ := fin (some .ret) W4 lp4
          exact ⟨_, _, hr, .inr ⟨rfl, .ret, hIx _ _ _ _ hi4 ((Below.refl _ _).putObj (by omega) _), hl5, hk5⟩⟩
        | exit id =>
          obtain ⟨lp4, hi4⟩ := hp4
          obtain ⟨hr, hl4, hl5, hk5⟩ := fin (some (.exit id)) W4 lp4
          exact ⟨_, _, hr, .inr ⟨rfl, .exit id, hIx _ _ _ _ hi4 ((Below.refl _ _).putObj (by omega) _), hl5, hk5⟩⟩
        | goto t =>
          obtain ⟨lp4, hi4⟩ := hp4
          obtain ⟨hr, hl4, hl5, hk5⟩ := fin (some (.goto t)) W4 lp4
          exact ⟨_, _, hr, .inr ⟨rfl, .goto t, hIx _ _ _ _ hi4 ((Below.refl _ _).putObj (by omega) _), hl5, hk5⟩⟩
        | _ => exact hp4.elim
      | _ => exact hp.elim
    · rintro e W2 ⟨⟨v, rfl⟩, (⟨hi, hl, hk, hz⟩ | ⟨pre, x, r, hxs, c, hi, hl, hk⟩)⟩
      · refine ⟨none, _, by have := run_endLoop (P := P) hl (by rw [hrec]; simp); rw [hrec] at this; exact this, ?_⟩
        exact hdone _ _ (hI _ _ _ hi ((Below.refl _ _).putObj (by omega) _)) ((World.putObj_heap_other (by omega)).trans hk) (Nat.le_refl _)
      · refine ⟨some c, _, by have := run_endLoop (P := P) hl (by rw [hrec]; simp); rw [hrec] at this; exact this, ?_⟩
        exact hstop _ c pre x r _ hxs (hIx c _ _ _ hi ((Below.refl _ _).putObj (by omega) _)) ((World.putObj_heap_other (by omega)).trans hk) (Nat.le_refl _)
end Go.Proofs.YtbefmlioampgcaaGreatDoor

/- A range over a function whose body may leave the loop, over an iterator that writes into blocks of its own that stood before the loop: one law. -/
namespace Go.Proofs.YtbefmlioampgcaaGreatDoor
open Go.RowKit
set_option linter.unusedVariables false
set_option linter.unusedSimpArgs false

/-- Below B, and outside the iterator's own blocks, nothing has turned. -/
structure BelowE (B : Nat) (own : Nat → Prop) (a w : World) : Prop where
  os : w.os = a.os
  tape : w.tape = a.tape
  output : w.output = a.output
  size : a.heap.size ≤ w.heap.size
  block : ∀ k, k < B → ¬ own k → w.heap[k]? = a.heap[k]?
theorem BelowE.of {B : Nat} {own : Nat → Prop} {a w : World} (h : Below B a w) : BelowE B own a w := ⟨h.os, h.tape, h.output, h.size, fun k hk _ => h.block k hk⟩
theorem BelowE.mono {B C : Nat} {own : Nat → Prop} {a w : World} (h : BelowE B own a w) (hc : C ≤ B) : BelowE C own a w := ⟨h.os, h.tape, h.output, h.size, fun k hk ho => h.block k (by omega) ho⟩
theorem BelowE.set {B : Nat} {own : Nat → Prop} (a : World) {p : Addr} (hp : own p.block) (u : Value) : BelowE B own a (a.setCell p u) :=
  ⟨rfl, rfl, rfl, by simp, fun k _ ho => Below.heap_setCell a p u k (by rintro rfl; exact ho hp)⟩
/-- An invariant that speaks of blocks below B alone, and of no own block of the iterator's. -/
def DeepE {β : Type} (B : Nat) (own : Nat → Prop) (J : β → World → Prop) : Prop :=
  ∀ s W W', J s W → BelowE B own W W' → J s W'
/-- The iterator hands over xs, or a part of it where a round has said 'no more', whatever the body does within its word. -/
def SeqUntilE {α : Type} (F : Fence) (n : Nat) (P : Program) (gf : Nat) (lb : Array Value) (encs : α → Array Value) (X own : Nat → Prop) (xs : List α) (w : World) : Prop :=
  ∀ (l : Nat) (J Jx : List α → World → Prop) (W : World), Below w.heap.size w W → DeepE W.heap.size own J → DeepE W.heap.size own Jx →
    (∀ pre x r W1, J pre W1 → xs = pre ++ x :: r → YieldAt F (n - 1) P l (encs x) W1 fun e W' => (e = .returned (.bool true) ∧ J (pre ++ [x]) W' ∧ KeepC X W1 W') ∨ (e = .returned (.bool false) ∧ Jx (pre ++ [x]) W')) →
    J [] W → CallsIn F n P gf (#[.func (.yield l) #[] #[]] ++ lb) W fun e W' => (∃ v, e = .returned v) ∧ (J xs W' ∨ ∃ pre x r, xs = pre ++ x :: r ∧ Jx (pre ++ [x]) W')

end Go.Proofs.YtbefmlioampgcaaGreatDoor

/- A valid expression, walked in the program: a closure that calls itself, through slices.ContainsFunc. -/
namespace Go.Proofs.YtbefmlioampgcaaGreatDoor
open Go.RowKit
set_option linter.unusedSimpArgs false
set_option linter.unusedVariables false

/-- Only block g, of what was there, may have changed. -/
def UpdB (g : Nat) (w w' : World) : Prop := BelowE w.heap.size (fun k => k = g) w w'
section
variable {g : Nat} {w w' w'' : World}
theorem UpdB.refl (g : Nat) (w : World) : UpdB g w w := ⟨rfl, rfl, rfl, Nat.le_refl _, fun _ _ _ => rfl⟩
theorem UpdB.of_below (h : Below w.heap.size w w') : UpdB g w w' := BelowE.of h
theorem UpdB.trans (h : UpdB g w w') (k : UpdB g w' w'') : UpdB g w w'' :=
  ⟨k.os.trans h.os, k.tape.trans h.tape, k.output.trans h.output, Nat.le_trans h.size k.size, fun i hi hne => (k.block i (Nat.lt_of_lt_of_le hi h.size) hne).trans (h.block i hi hne)⟩
theorem UpdB.size (h : UpdB g w w') : w.heap.size ≤ w'.heap.size := BelowE.size h
theorem UpdB.set (w : World) (o : Nat) (u : Value) : UpdB g w (w.setCell ⟨g, o, none⟩ u) := BelowE.set (own := fun k => k = g) w (p := ⟨g, o, none⟩) rfl u
theorem UpdB.alloc (w : World) (o : Obj) : UpdB g w (w.alloc o) := BelowE.of ((Below.refl _ _).alloc (Nat.le_refl _) o)
theorem UpdB.below (h : UpdB g w w') (hg : g < w.heap.size) : Below g w w' := ⟨h.os, h.tape, h.output, BelowE.size h, fun k hk => h.block k (by omega) (by omega)⟩
theorem Blk.upd {k : Nat} {t : TypeId} {cs : Array Value} (h : Blk w k t cs) (hu : UpdB g w w') (hk : k ≠ g) : Blk w' k t cs := (hu.block k h.lt hk).trans h
end
/-- What visit returns: whether the expression is valid there, and how many are left. -/
def RetVis (R : Option Nat) (bl : Nat) (w : World) (e : Ending) (w' : World) : Prop :=
  UpdB bl w w' ∧ ∃ (b : Bool) (z : Int), e = .returned (.bool b) ∧ Blk w' bl 3 #[.int .i64 z] ∧ (R = none ∧ b = false ∨ ∃ r : Nat, R = some r ∧ b = true ∧ z = r)
/-- The inner closure answers the opposite. -/
def RetNot (R : Option Nat) (bl : Nat) (w : World) (e : Ending) (w' : World) : Prop :=
  UpdB bl w w' ∧ ∃ (b : Bool) (z : Int), e = .returned (.bool b) ∧ Blk w' bl 3 #[.int .i64 z] ∧ (R = none ∧ b = true ∨ ∃ r : Nat, R = some r ∧ b = false ∧ z = r)
end Go.Proofs.YtbefmlioampgcaaGreatDoor
