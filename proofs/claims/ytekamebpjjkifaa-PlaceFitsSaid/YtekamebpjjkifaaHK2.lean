/- Texts that belong together, joined: what each one holds is told ahead of it. -/
import Derived.Test.YtekamebpjjkifaaHK1
import Derived.SizedLaws
import Derived.DataShut
import Derived.RangeFuncNested
import Derived.RangeFuncBound
import Derived.RangeFuncCalls
import Derived.RangeFuncLeaves
import Derived.RangeFuncFrom
import Derived.Shelf.Abstract
import Derived.Shelf.RegionOpen
import Derived.OwnWalkIn
import Derived.TacticsInMore
import Derived.LoopNIn
import Derived.LoopIn
/- How arguments in memory read, with what they weigh. -/
namespace Go.Proofs.Ytekamebpjjkifaa
open Go.RowKit
set_option linter.unusedVariables false
set_option linter.unusedSimpArgs false

section
variable {P : Program} {H : Type} {enc : TypeId × Value → H} {w : World} {base : Nat} {sp : Nat → Bool} {held : Bool} {fuel : Nat} {t : TypeId} {cs : List Value} {y : DataW H × List MemPlace}
/-- Nothing in a datum weighs more than can be reached. -/
def Light (P : Program) (t : TypeId) (d : DataW H) : Prop := ∀ n ∈ d.weights P t, n ≤ reachBytes
theorem trod_slice_inv2 {e : TypeId} (ht : P.underlying t = some (.slice e)) (h : DataW.trod enc P w base sp held fuel t cs = some y) :
    cs = [.slice none 0 0] ∨ ∃ a len cap f elems spare, cs = [.slice (some a) len cap] ∧ len ≤ cap ∧ cap ≤ maxLen ∧ y.1 = .slice elems spare ∧
      ∀ i, i < len → ∃ c z, w.cells? base (a.add (i * P.cellsOf e)) (P.cellsOf e) = some c ∧ DataW.trod enc P w base sp held f e c = some z ∧ elems[i]? = some z.1 := by
  cases fuel with
  | zero => cases h
  | succ f =>
    simp only [DataW.trod, ht] at h
    split at h
    all_goals first
      | (cases h; done)
      | (rename_i e; cases e; done)
      | (rename_i e; injection e with e; injection e with e; subst e; exact .inl rfl)
      | (rename_i e; injection e with e; injection e with e; subst e
         split at h
         · rename_i hk
           cases h1 : (List.range _).mapM (fun i => (w.cells? base (Addr.add _ (i * P.cellsOf _)) (P.cellsOf _)).bind (DataW.trod enc P w base sp held f _)) with
           | none => rw [h1] at h; cases h
           | some l =>
             rw [h1] at h
             simp only [Option.bind_some] at h
             obtain ⟨rest, -, hy⟩ := Option.map_eq_some_iff.1 h
             refine .inr ⟨_, _, _, f, l.map (·.1), rest.map (·.1), rfl, hk.2.1, hk.2.2, by rw [← hy], ?_⟩
             intro i hi
             have h2 := (mapM_range_some h1).2 i hi
             have hl := (mapM_range_some h1).1
             rw [List.getElem?_eq_getElem (by omega)] at h2
             obtain ⟨c, hc, hz⟩ := Option.bind_eq_some_iff.1 h2
             exact ⟨c, _, hc, hz, by rw [List.getElem?_map, List.getElem?_eq_getElem (by omega)]; rfl⟩
         · cases h)
theorem trod_struct_inv2 {fs : Array Field} (ht : P.underlying t = some (.struct fs)) (h : DataW.trod enc P w base sp held fuel t cs = some y) :
    ∃ f parts, cs.length = P.cellsOf t ∧ y.1 = .agg parts ∧ ∀ (j : Nat) (x : Field), fs.toList[j]? = some x → ∃ z, DataW.trod enc P w base sp held f x.type ((cs.drop x.offset).take (P.cellsOf x.type)) = some z ∧ parts[j]? = some z.1 := by
  cases fuel with
  | zero => cases h
  | succ f =>
    simp only [DataW.trod, ht] at h
    split at h
    · rename_i hk
      obtain ⟨l, h1, hy⟩ := Option.map_eq_some_iff.1 h
      refine ⟨f, l.map (·.1), hk, by rw [← hy], ?_⟩
      clear h hy
      generalize fs.toList = xs at h1
      induction xs generalizing l with
      | nil => intro j x hx; simp at hx
      | cons x r ih =>
        rw [List.mapM_cons] at h1
        cases h2 : DataW.trod enc P w base sp held f x.type ((cs.drop x.offset).take (P.cellsOf x.type)) with
        | none => rw [h2] at h1; cases h1
        | some z =>
          rw [h2] at h1
          cases h3 : List.mapM (fun x : Field => DataW.trod enc P w base sp held f x.type ((cs.drop x.offset).take (P.cellsOf x.type))) r with
          | none => rw [h3] at h1; cases h1
          | some l' =>
            rw [h3] at h1
            injection h1 with h1
            subst h1
            intro j x' hx'
            cases j with
            | zero => simp at hx'; subst hx'; exact ⟨z, h2, rfl⟩
            | succ j => exact ih l' h3 j x' (by simpa using hx')
    · cases h
theorem trod_string_inv2 (ht : P.underlying t = some .string) (h : DataW.trod enc P w base sp held fuel t cs = some y) : ∃ s : ByteArray, cs = [.string s] ∧ y.1 = .lit (.string s.data.toList) := by
  obtain ⟨s, rfl, hs⟩ := trod_string_inv ht h
  cases fuel with
  | zero => cases h
  | succ f =>
    simp only [DataW.trod, ht] at h
    rw [if_pos hs] at h
    injection h with h
    exact ⟨s, rfl, by rw [← h]⟩
theorem Light.elem {e : TypeId} {elems spare : List (DataW H)} (ht : P.underlying t = some (.slice e)) (h : Light P t (.slice elems spare)) {i : Nat} {d : DataW H} (hd : elems[i]? = some d) : Light P e d := by
  intro n hn
  refine h n ?_
  simp only [DataW.weights, ht]
  refine List.mem_cons_of_mem _ (List.mem_append_left _ ?_)
  have : ∀ (l : List (DataW H)) (i : Nat), l[i]? = some d → n ∈ DataW.weightsAll P e l := by
    intro l
    induction l with
    | nil => intro i hi; simp at hi
    | cons x r ih =>
      intro i hi
      rw [DataW.weightsAll]
      cases i with
      | zero => simp at hi; subst hi; exact List.mem_append_left _ hn
      | succ i => exact List.mem_append_right _ (ih i (by simpa using hi))
  exact this elems i hd
theorem Light.part {fs : Array Field} {parts : List (DataW H)} (ht : P.underlying t = some (.struct fs)) (h : Light P t (.agg parts)) {j : Nat} {x : Field} {d : DataW H} (hx : fs.toList[j]? = some x) (hd : parts[j]? = some d) : Light P x.type d := by
  intro n hn
  refine h n ?_
  simp only [DataW.weights, ht]
  exact DataW.weights_mem_each (j := j) (by rw [List.getElem?_map, hx]; rfl) hd n hn
theorem Light.str {l : List UInt8} (h : Light P t (.lit (.string l) : DataW H)) : l.length ≤ 281474976710656 := by
  have h1 := h l.length (by simp [DataW.weights])
  have h2 := reachBytes_lt
  omega
theorem Light.count {e : TypeId} {elems spare : List (DataW H)} (ht : P.underlying t = some (.slice e)) (h : Light P t (.slice elems spare)) : elems.length * P.bytesOf e ≤ reachBytes := by
  have h1 := h ((elems.length + spare.length) * P.bytesOf e) (by simp [DataW.weights, ht])
  have h2 : elems.length * P.bytesOf e ≤ (elems.length + spare.length) * P.bytesOf e := Nat.mul_le_mul_right _ (by omega)
  omega
theorem Light.arg {ts : List TypeId} {ds : List (DataW H)} (h : (DataW.weightsEach P ts ds).all (· ≤ reachBytes) = true) {j : Nat} {d : DataW H} (ht : ts[j]? = some t) (hd : ds[j]? = some d) : Light P t d := by
  intro n hn
  have := List.all_eq_true.1 h n (DataW.weights_mem_each ht hd n hn)
  simpa using this
theorem flat_get {cells : Nat → List Value} {size : Nat} : ∀ {n : Nat}, (∀ i, i < n → (cells i).length = size) →
    ((List.range n).flatMap cells).length = n * size ∧ ∀ (j : Nat) (u : Value), ((List.range n).flatMap cells)[j]? = some u → ∃ i r, i < n ∧ j = i * size + r ∧ (cells i)[r]? = some u
  | 0, _ => ⟨by simp, fun j u h => by simp at h⟩
  | n + 1, hl => by
    obtain ⟨h1, h2⟩ := flat_get (n := n) (fun i hi => hl i (by omega))
    rw [List.range_succ, List.flatMap_append]
    have e : List.flatMap cells [n] = cells n := by simp
    rw [e]
    refine ⟨by rw [List.length_append, h1, hl n (by omega), Nat.succ_mul], fun j u h => ?_⟩
    rcases Nat.lt_or_ge j (n * size) with hlt | hge
    · rw [List.getElem?_append_left (by omega)] at h
      obtain ⟨i, r, hi, hj, hu⟩ := h2 j u h
      exact ⟨i, r, by omega, hj, hu⟩
    · rw [List.getElem?_append_right (by omega), h1] at h
      exact ⟨n, j - n * size, by omega, by omega, h⟩
theorem Reads.of_rows {B size n : Nat} {a : Addr} {cells : Nat → List Value} (hl : ∀ i, i < n → (cells i).length = size) (hc : ∀ i, i < n → ∀ j u, (cells i)[j]? = some u → w.cell? ((a.add (i * size)).add j) = some u)
    (hb : 0 < n → a.block < B) : Reads w B size (some a) n ((List.range n).flatMap cells) := by
  obtain ⟨h1, h2⟩ := flat_get hl
  refine ⟨h1, fun hn => ⟨a, rfl, hb hn, fun j u hu => ?_⟩⟩
  obtain ⟨i, r, hi, rfl, hu'⟩ := h2 j u hu
  rw [← add_of_add]
  exact hc i hi r u hu'
/-- A slice whose elements read each as one of α. -/
theorem open_slice_of {e : TypeId} {α : Type} [Inhabited α] {R : α → Prop} {cells : α → List Value} {size : Nat} (hsz : P.cellsOf e = size) (hpos : 0 < size) (hlen : ∀ x, (cells x).length = size) (ht : P.underlying t = some (.slice e))
    (hone : ∀ (f : Nat) (c : List Value) (z : DataW H × List MemPlace), DataW.trod enc P w base sp held f e c = some z → Light P e z.1 → ∃ x, c = cells x ∧ R x)
    (h : DataW.trod enc P w base sp held fuel t cs = some y) (hw : Light P t y.1) :
    ∃ (A : Option Addr) (m c : Nat) (xs : List α), cs = [.slice A m c] ∧ Reads w w.heap.size size A m (xs.flatMap cells) ∧ xs.length = m ∧ (∀ x ∈ xs, R x) ∧ m ≤ c ∧ c ≤ maxLen := by
  rcases trod_slice_inv2 ht h with rfl | ⟨a, m, cap, f, elems, spare, rfl, h3, h4, hy, h5⟩
  · exact ⟨none, 0, 0, [], rfl, Reads.none_, rfl, by simp, by omega, by omega⟩
  · rw [hsz] at h5
    rw [hy] at hw
    have h6 : ∀ i, ∃ x : α, i < m → w.cells? base (a.add (i * size)) size = some (cells x) ∧ R x := fun i => by
      by_cases hi : i < m
      · obtain ⟨c, z, hc, hz, he⟩ := h5 i hi
        obtain ⟨x, rfl, hr⟩ := hone f c z hz (hw.elem ht he)
        exact ⟨x, fun _ => ⟨hc, hr⟩⟩
      · exact ⟨default, fun h => (hi h).elim⟩
    obtain ⟨g, hg⟩ := Classical.axiomOfChoice h6
    refine ⟨some a, m, cap, (List.range m).map g, rfl, ?_, by simp, ?_, h3, h4⟩
    · have e : ((List.range m).map g).flatMap cells = (List.range m).flatMap fun i => cells (g i) := by simp [List.flatMap_map]
      rw [e]
      refine Reads.of_rows (fun i _ => hlen _) (fun i hi j u hu => ?_) (fun hm => ?_)
      · exact (cells_inv (hg i hi).1).2 j u hu
      · have := World.cells?_block (hg 0 hm).1 hpos
        rwa [block_of_add] at this
    · intro x hx
      obtain ⟨i, hi, rfl⟩ := List.mem_map.1 hx
      exact (hg i (List.mem_range.1 hi)).2
end
end Go.Proofs.Ytekamebpjjkifaa

/- How kernels that came in read: expressions, places, guards, processes. -/
namespace Go.Proofs.Ytekamebpjjkifaa
open Go.ChangeShapes Go.WideShapes Go.ChangeAt Go.RowKit

section
variable {H : Type} {enc : TypeId × Value → H} {P : Program} {w : World} {base : Nat} {sp : Nat → Bool} {held : Bool} {fuel : Nat} {t : TypeId} {cs : List Value} {y : DataW H × List MemPlace}
theorem reach_47 : reachBytes ≤ 140737488355328 := by decide
theorem trod_slice_lt {e : TypeId} (ht : P.underlying t = some (.slice e)) (h : DataW.trod enc P w base sp held fuel t cs = some y) :
    cs = [.slice none 0 0] ∨ ∃ a len cap f elems spare, f < fuel ∧ cs = [.slice (some a) len cap] ∧ len ≤ cap ∧ cap ≤ maxLen ∧ y.1 = .slice elems spare ∧
      ∀ i, i < len → ∃ c z, w.cells? base (a.add (i * P.cellsOf e)) (P.cellsOf e) = some c ∧ DataW.trod enc P w base sp held f e c = some z ∧ elems[i]? = some z.1 := by
  cases fuel with
  | zero => cases h
  | succ f =>
    simp only [DataW.trod, ht] at h
    split at h
    all_goals first
      | (cases h; done)
      | (rename_i e; cases e; done)
      | (rename_i e; injection e with e; injection e with e; subst e; exact .inl rfl)
      | (rename_i e; injection e with e; injection e with e; subst e
         split at h
         · rename_i hk
           cases h1 : (List.range _).mapM (fun i => (w.cells? base (Addr.add _ (i * P.cellsOf _)) (P.cellsOf _)).bind (DataW.trod enc P w base sp held f _)) with
           | none => rw [h1] at h; cases h
           | some l =>
             rw [h1] at h
             simp only [Option.bind_some] at h
             obtain ⟨rest, -, hy⟩ := Option.map_eq_some_iff.1 h
             refine .inr ⟨_, _, _, f, l.map (·.1), rest.map (·.1), Nat.lt_succ_self _, rfl, hk.2.1, hk.2.2, by rw [← hy], ?_⟩
             intro i hi
             have h2 := (mapM_range_some h1).2 i hi
             have hl := (mapM_range_some h1).1
             rw [List.getElem?_eq_getElem (by omega)] at h2
             obtain ⟨c, hc, hz⟩ := Option.bind_eq_some_iff.1 h2
             exact ⟨c, _, hc, hz, by rw [List.getElem?_map, List.getElem?_eq_getElem (by omega)]; rfl⟩
         · cases h)
theorem trod_struct_lt {fs : Array Field} (ht : P.underlying t = some (.struct fs)) (h : DataW.trod enc P w base sp held fuel t cs = some y) :
    ∃ f parts, f < fuel ∧ cs.length = P.cellsOf t ∧ y.1 = .agg parts ∧ ∀ (j : Nat) (x : Field), fs.toList[j]? = some x → ∃ z, DataW.trod enc P w base sp held f x.type ((cs.drop x.offset).take (P.cellsOf x.type)) = some z ∧ parts[j]? = some z.1 := by
  cases fuel with
  | zero => cases h
  | succ f =>
    simp only [DataW.trod, ht] at h
    split at h
    · rename_i hk
      obtain ⟨l, h1, hy⟩ := Option.map_eq_some_iff.1 h
      refine ⟨f, l.map (·.1), Nat.lt_succ_self _, hk, by rw [← hy], ?_⟩
      clear h hy
      generalize fs.toList = xs at h1
      induction xs generalizing l with
      | nil => intro j x hx; simp at hx
      | cons x r ih =>
        rw [List.mapM_cons] at h1
        cases h2 : DataW.trod enc P w base sp held f x.type ((cs.drop x.offset).take (P.cellsOf x.type)) with
        | none => rw [h2] at h1; cases h1
        | some z =>
          rw [h2] at h1
          cases h3 : List.mapM (fun x : Field => DataW.trod enc P w base sp held f x.type ((cs.drop x.offset).take (P.cellsOf x.type))) r with
          | none => rw [h3] at h1; cases h1
          | some l' =>
            rw [h3] at h1
            injection h1 with h1
            subst h1
            intro j x' hx'
            cases j with
            | zero => simp at hx'; subst hx'; exact ⟨z, h2, rfl⟩
            | succ j => exact ih l' h3 j x' (by simpa using hx')
    · cases h
/-- A slice whose elements read each as one of α. -/
theorem open_row {e : TypeId} {α : Type} [Inhabited α] {R : α → Prop} {cells : α → List Value} {size : Nat} (hsz : P.cellsOf e = size) (hpos : 0 < size) (hlen : ∀ x, (cells x).length = size) (ht : P.underlying t = some (.slice e)) (hb : 0 < P.bytesOf e)
    (hone : ∀ (f : Nat) (c : List Value) (z : DataW H × List MemPlace), f < fuel → DataW.trod enc P w base sp held f e c = some z → Light P e z.1 → ∃ x, c = cells x ∧ R x)
    (h : DataW.trod enc P w base sp held fuel t cs = some y) (hw : Light P t y.1) :
    ∃ (A : Option Addr) (c : Nat) (xs : List α), cs = [.slice A xs.length c] ∧ lenOk xs ∧ Reads w w.heap.size size A xs.length (xs.flatMap cells) ∧ (∀ x ∈ xs, R x) := by
  rcases trod_slice_lt ht h with rfl | ⟨a, m, cap, f, elems, spare, hf, rfl, h3, h4, hy, h5⟩
  · exact ⟨none, 0, [], rfl, by simp [lenOk], Reads.none_, by simp⟩
  · rw [hsz] at h5
    rw [hy] at hw
    have hm : m ≤ elems.length := by
      rcases Nat.lt_or_ge elems.length m with hlt | hge
      · obtain ⟨c', z, -, -, he⟩ := h5 elems.length hlt
        rw [List.getElem?_eq_none (Nat.le_refl _)] at he
        cases he
      · exact hge
    have hcount := hw.count ht
    have h6 : ∀ i, ∃ x : α, i < m → w.cells? base (a.add (i * size)) size = some (cells x) ∧ R x := fun i => by
      by_cases hi : i < m
      · obtain ⟨c, z, hc, hz, he⟩ := h5 i hi
        obtain ⟨x, rfl, hr⟩ := hone f c z hf hz (hw.elem ht he)
        exact ⟨x, fun _ => ⟨hc, hr⟩⟩
      · exact ⟨default, fun h => (hi h).elim⟩
    obtain ⟨g, hg⟩ := Classical.axiomOfChoice h6
    refine ⟨some a, cap, (List.range m).map g, by simp, ?_, ?_, ?_⟩
    · have h7 : elems.length * 1 ≤ elems.length * P.bytesOf e := Nat.mul_le_mul_left _ hb
      have := reach_47
      simp only [lenOk, List.length_map, List.length_range]
      omega
    · have e : ((List.range m).map g).flatMap cells = (List.range m).flatMap fun i => cells (g i) := by simp [List.flatMap_map]
      rw [e]
      simp only [List.length_map, List.length_range]
      refine Reads.of_rows (fun i _ => hlen _) (fun i hi j u hu => ?_) (fun hm => ?_)
      · exact (cells_inv (hg i hi).1).2 j u hu
      · have := World.cells?_block (hg 0 hm).1 hpos
        rwa [block_of_add] at this
    · intro x hx
      obtain ⟨i, hi, rfl⟩ := List.mem_map.1 hx
      exact (hg i (List.mem_range.1 hi)).2
theorem i32_wf {a : Int} (h : (Lit.int .i32 a).wf = true) : i32ok a := by
  have := (Lit.wf_int_iff _ _).1 h
  simp [IntKind.min, IntKind.max, IntKind.signed, IntKind.bits] at this
  unfold i32ok
  omega
theorem i64_wf {a : Int} (h : (Lit.int .i64 a).wf = true) : i64ok a := by
  have := (Lit.wf_int_iff _ _).1 h
  simp [IntKind.min, IntKind.max, IntKind.signed, IntKind.bits] at this
  unfold i64ok
  omega
theorem u8_wf {a : Int} (h : (Lit.int .u8 a).wf = true) : ∃ k : Nat, a = k ∧ k ≤ 255 := by
  have := (Lit.wf_int_iff _ _).1 h
  simp [IntKind.min, IntKind.max, IntKind.signed, IntKind.bits] at this
  exact ⟨a.toNat, by omega, by omega⟩
theorem fsKE : Try.prog.underlying 99 = some (.struct #[⟨ "Kind", 96, 0, false, "", "", 0⟩, ⟨ "Oper", 97, 1, false, "", "", 1⟩, ⟨ "To", 25, 2, false, "", "", 2⟩, ⟨ "N", 21, 3, false, "", "", 4⟩, ⟨ "V", 3, 4, false, "", "", 8⟩, ⟨ "L", 27, 5, false, "", "", 16⟩]) := by kernel_rfl
theorem fsKPl : Try.prog.underlying 101 = some (.struct #[⟨ "V", 3, 0, false, "", "", 0⟩, ⟨ "Index", 27, 1, false, "", "", 8⟩]) := by kernel_rfl
theorem fsKG : Try.prog.underlying 103 = some (.struct #[⟨ "Kind", 95, 0, false, "", "", 0⟩, ⟨ "Cond", 99, 1, false, "", "", 8⟩, ⟨ "C", 3, 7, false, "", "", 48⟩, ⟨ "Item", 25, 8, false, "", "", 56⟩, ⟨ "To", 101, 9, false, "", "", 64⟩, ⟨ "Time", 99, 11, false, "", "", 96⟩, ⟨ "Body", 29, 17, false, "", "", 136⟩]) := by kernel_rfl
theorem fsKP : Try.prog.underlying 31 = some (.struct #[⟨ "Kind", 24, 0, false, "", "", 0⟩, ⟨ "C", 3, 1, false, "", "", 8⟩, ⟨ "V", 3, 2, false, "", "", 16⟩, ⟨ "Item", 25, 3, false, "", "", 24⟩, ⟨ "To", 26, 4, false, "", "", 32⟩, ⟨ "E", 27, 5, false, "", "", 56⟩, ⟨ "Guards", 28, 6, false, "", "", 80⟩, ⟨ "L", 29, 7, false, "", "", 104⟩]) := by kernel_rfl
theorem fsVar : Try.prog.underlying 82 = some (.struct #[⟨ "Kind", 25, 0, false, "", "", 0⟩, ⟨ "Dim", 3, 1, false, "", "", 8⟩]) := by kernel_rfl
theorem fsKK : Try.prog.underlying 34 = some (.struct #[⟨ "Vars", 22, 0, false, "", "", 0⟩, ⟨ "Chans", 23, 1, false, "", "", 24⟩, ⟨ "Root", 31, 2, false, "", "", 48⟩, ⟨ "Procs", 32, 10, false, "", "", 176⟩]) := by kernel_rfl
theorem cK1 : Try.prog.cellsOf 96 = 1 := by kernel_rfl
theorem cK2 : Try.prog.cellsOf 97 = 1 := by kernel_rfl
theorem cK3 : Try.prog.cellsOf 25 = 1 := by kernel_rfl
theorem cK4 : Try.prog.cellsOf 21 = 1 := by kernel_rfl
theorem cK5 : Try.prog.cellsOf 3 = 1 := by kernel_rfl
theorem cK6 : Try.prog.cellsOf 27 = 1 := by kernel_rfl
theorem cK7 : Try.prog.cellsOf 99 = 6 := by kernel_rfl
theorem cK8 : Try.prog.cellsOf 101 = 2 := by kernel_rfl
theorem cK9 : Try.prog.cellsOf 29 = 1 := by kernel_rfl
theorem cK10 : Try.prog.cellsOf 26 = 1 := by kernel_rfl
theorem cK11 : Try.prog.cellsOf 28 = 1 := by kernel_rfl
theorem cK12 : Try.prog.cellsOf 95 = 1 := by kernel_rfl
theorem cK13 : Try.prog.cellsOf 24 = 1 := by kernel_rfl
theorem cK14 : Try.prog.cellsOf 31 = 8 := by kernel_rfl
theorem cK15 : Try.prog.cellsOf 103 = 18 := by kernel_rfl
theorem cK16 : Try.prog.cellsOf 82 = 2 := by kernel_rfl
theorem cK17 : Try.prog.cellsOf 22 = 1 := by kernel_rfl
theorem cK18 : Try.prog.cellsOf 23 = 1 := by kernel_rfl
theorem cK19 : Try.prog.cellsOf 32 = 1 := by kernel_rfl
theorem cK20 : Try.prog.cellsOf 83 = 1 := by kernel_rfl
theorem cK21 : Try.prog.cellsOf 34 = 11 := by kernel_rfl
theorem list6 {α : Type} {l : List α} (h : l.length = 6) : ∃ a b c d e f, l = [a, b, c, d, e, f] := by
  match l, h with
  | [a, b, c, d, e, f], _ => exact ⟨a, b, c, d, e, f, rfl⟩
set_option maxRecDepth 100000 in
theorem open_kes_of (hE : ∀ (f : Nat) (c : List Value) (z : DataW H × List MemPlace), f < fuel → DataW.trod enc Try.prog w base sp held f 99 c = some z → Light Try.prog 99 z.1 → ∃ x : KE, c = x.cells.toList ∧ x.In w w.heap.size)
    (h : DataW.trod enc Try.prog w base sp held fuel 27 cs = some y) (hw : Light Try.prog 27 y.1) : ∃ (A : Option Addr) (c : Nat) (l : List KE), cs = [.slice A l.length c] ∧ kesIn w w.heap.size A l := by
  obtain ⟨A, c, l, h1, h2, h3, h4⟩ := open_row (α := KE) (R := KE.In w w.heap.size) (cells := fun x => x.cells.toList) (size := 6) cK7 (by decide) KE.cells_len Try.underlying27 (of_decide_eq_true (by kernel_rfl)) hE h hw
  exact ⟨A, c, l, h1, h2, h3, h4⟩
set_option maxRecDepth 100000 in
theorem open_ke : ∀ (fuel : Nat) (cs : List Value) (y : DataW H × List MemPlace), DataW.trod enc Try.prog w base sp held fuel 99 cs = some y → Light Try.prog 99 y.1 → ∃ x : KE, cs = x.cells.toList ∧ x.In w w.heap.size := by
  intro fuel
  induction fuel using Nat.strongRecOn with
  | ind fuel ih =>
    intro cs y h hw
    obtain ⟨f, parts, hf, hl, hy, hx⟩ := trod_struct_lt fsKE h
    rw [hy] at hw
    rw [cK7] at hl
    obtain ⟨v0, v1, v2, v3, v4, v5, rfl⟩ := list6 hl
    obtain ⟨z0, h0, -⟩ := hx 0 _ rfl
    obtain ⟨z1, h1, -⟩ := hx 1 _ rfl
    obtain ⟨z2, h2, -⟩ := hx 2 _ rfl
    obtain ⟨z3, h3, -⟩ := hx 3 _ rfl
    obtain ⟨z4, h4, -⟩ := hx 4 _ rfl
    obtain ⟨z5, h5, q5⟩ := hx 5 _ rfl
    have l5 := hw.part fsKE (j := 5) rfl q5
    simp only [cK1, cK2, cK3, cK4, cK5, cK6] at h0 h1 h2 h3 h4 h5 l5
    simp only [List.drop_succ_cons, List.drop_zero, List.take_succ_cons, List.take_zero] at h0 h1 h2 h3 h4 h5
    obtain ⟨a0, e0, w0⟩ := trod_int_inv Try.underlying96 h0
    obtain ⟨a1, e1, w1⟩ := trod_int_inv Try.underlying97 h1
    obtain ⟨a2, e2, w2⟩ := trod_int_inv Try.underlying25 h2
    obtain ⟨a3, e3, w3⟩ := trod_int_inv Try.underlying21 h3
    obtain ⟨a4, e4, w4⟩ := trod_int_inv Try.underlying3 h4
    obtain ⟨A, c, l, e5, hin⟩ := open_kes_of (fuel := f) (fun f' c z hf' => ih f' (by omega) c z) h5 l5
    injection e0 with e0; injection e1 with e1; injection e2 with e2; injection e3 with e3; injection e4 with e4; injection e5 with e5
    subst e0 e1 e2 e3 e4 e5
    obtain ⟨b0, rfl, c0⟩ := u8_wf w0
    obtain ⟨b1, rfl, c1⟩ := u8_wf w1
    obtain ⟨b2, rfl, c2⟩ := u8_wf w2
    exact ⟨⟨b0, b1, b2, a3, a4, A, c, l⟩, rfl, KE.all_iff.2 ⟨⟨⟨c0, c1, c2, i32_wf w3, i64_wf w4, hin.1⟩, hin.2.1⟩, hin.2.2⟩⟩
theorem open_kes (h : DataW.trod enc Try.prog w base sp held fuel 27 cs = some y) (hw : Light Try.prog 27 y.1) : ∃ (A : Option Addr) (c : Nat) (l : List KE), cs = [.slice A l.length c] ∧ kesIn w w.heap.size A l :=
  open_kes_of (fun f c z _ => open_ke f c z) h hw
set_option maxRecDepth 100000 in
theorem open_kpl (h : DataW.trod enc Try.prog w base sp held fuel 101 cs = some y) (hw : Light Try.prog 101 y.1) : ∃ x : KPl, cs = x.cells.toList ∧ x.In w w.heap.size := by
  obtain ⟨f, parts, hf, hl, hy, hx⟩ := trod_struct_lt fsKPl h
  rw [hy] at hw
  rw [cK8] at hl
  match cs, hl with
  | [v0, v1], _ =>
    obtain ⟨z0, h0, -⟩ := hx 0 _ rfl
    obtain ⟨z1, h1, q1⟩ := hx 1 _ rfl
    have l1 := hw.part fsKPl (j := 1) rfl q1
    simp only [cK5, cK6] at h0 h1 l1
    simp only [List.drop_succ_cons, List.drop_zero, List.take_succ_cons, List.take_zero] at h0 h1
    obtain ⟨a0, e0, w0⟩ := trod_int_inv Try.underlying3 h0
    obtain ⟨A, c, l, e1, hin⟩ := open_kes h1 l1
    injection e0 with e0; injection e1 with e1
    subst e0 e1
    exact ⟨⟨a0, A, c, l⟩, rfl, i64_wf w0, hin⟩
set_option maxRecDepth 100000 in
theorem open_kpls (h : DataW.trod enc Try.prog w base sp held fuel 26 cs = some y) (hw : Light Try.prog 26 y.1) : ∃ (A : Option Addr) (c : Nat) (l : List KPl), cs = [.slice A l.length c] ∧ kplsIn w w.heap.size A l := by
  obtain ⟨A, c, l, h1, h2, h3, h4⟩ := open_row (α := KPl) (R := KPl.In w w.heap.size) (cells := fun x => x.cells.toList) (size := 2) cK8 (by decide) KPl.cells_len Try.underlying26 (of_decide_eq_true (by kernel_rfl)) (fun f c z _ h1 h2 => open_kpl h1 h2) h hw
  exact ⟨A, c, l, h1, h2, h3, h4⟩
/-- A process that came in. -/
def OpenP (enc : TypeId × Value → H) (w : World) (base : Nat) (sp : Nat → Bool) (held : Bool) (f : Nat) : Prop :=
  ∀ (c : List Value) (z : DataW H × List MemPlace), DataW.trod enc Try.prog w base sp held f 31 c = some z → Light Try.prog 31 z.1 → ∃ x : KP, c = x.cells.toList ∧ x.In w w.heap.size
set_option maxRecDepth 100000 in
theorem open_kps_of (hP : ∀ f, f < fuel → OpenP enc w base sp held f) (h : DataW.trod enc Try.prog w base sp held fuel 29 cs = some y) (hw : Light Try.prog 29 y.1) :
    ∃ (A : Option Addr) (c : Nat) (l : List KP), cs = [.slice A l.length c] ∧ lenOk l ∧ Reads w w.heap.size 8 A l.length (kpsC l) ∧ ∀ x ∈ l, x.In w w.heap.size :=
  open_row (α := KP) (R := KP.In w w.heap.size) (cells := fun x => x.cells.toList) (size := 8) cK14 (by decide) KP.cells_len Try.underlying29 (of_decide_eq_true (by kernel_rfl)) (fun f c z hf => hP f hf c z) h hw
theorem list18 {α : Type} {l : List α} (h : l.length = 18) : ∃ a b c d e f g i j k m n o p q r s t, l = [a, b, c, d, e, f, g, i, j, k, m, n, o, p, q, r, s, t] := by
  match l, h with
  | [a, b, c, d, e, f, g, i, j, k, m, n, o, p, q, r, s, t], _ => exact ⟨a, b, c, d, e, f, g, i, j, k, m, n, o, p, q, r, s, t, rfl⟩
set_option maxRecDepth 100000 in
theorem open_kg_of (hP : ∀ f, f < fuel → OpenP enc w base sp held f) (h : DataW.trod enc Try.prog w base sp held fuel 103 cs = some y) (hw : Light Try.prog 103 y.1) : ∃ x : KG, cs = x.row ∧ x.One w w.heap.size ∧ ∀ p ∈ x.body, p.In w w.heap.size := by
  obtain ⟨f, parts, hf, hl, hy, hx⟩ := trod_struct_lt fsKG h
  rw [hy] at hw
  rw [cK15] at hl
  obtain ⟨v0, v1, v2, v3, v4, v5, v6, v7, v8, v9, v10, v11, v12, v13, v14, v15, v16, v17, rfl⟩ := list18 hl
  obtain ⟨z0, h0, -⟩ := hx 0 _ rfl
  obtain ⟨z1, h1, q1⟩ := hx 1 _ rfl
  obtain ⟨z2, h2, -⟩ := hx 2 _ rfl
  obtain ⟨z3, h3, -⟩ := hx 3 _ rfl
  obtain ⟨z4, h4, q4⟩ := hx 4 _ rfl
  obtain ⟨z5, h5, q5⟩ := hx 5 _ rfl
  obtain ⟨z6, h6, q6⟩ := hx 6 _ rfl
  have l1 := hw.part fsKG (j := 1) rfl q1
  have l4 := hw.part fsKG (j := 4) rfl q4
  have l5 := hw.part fsKG (j := 5) rfl q5
  have l6 := hw.part fsKG (j := 6) rfl q6
  simp only [cK12, cK7, cK5, cK3, cK8, cK9] at h0 h1 h2 h3 h4 h5 h6 l1 l4 l5 l6
  simp only [List.drop_succ_cons, List.drop_zero, List.take_succ_cons, List.take_zero] at h0 h1 h2 h3 h4 h5 h6
  obtain ⟨a0, e0, w0⟩ := trod_int_inv Try.underlying95 h0
  obtain ⟨x1, e1, i1⟩ := open_ke _ _ _ h1 l1
  obtain ⟨a2, e2, w2⟩ := trod_int_inv Try.underlying3 h2
  obtain ⟨a3, e3, w3⟩ := trod_int_inv Try.underlying25 h3
  obtain ⟨x4, e4, i4⟩ := open_kpl h4 l4
  obtain ⟨x5, e5, i5⟩ := open_ke _ _ _ h5 l5
  obtain ⟨A, c, l, e6, hlen, hr, hin⟩ := open_kps_of (fun f' hf' => hP f' (by omega)) h6 l6
  obtain ⟨b0, rfl, c0⟩ := u8_wf w0
  obtain ⟨b3, rfl, c3⟩ := u8_wf w3
  refine ⟨⟨b0, x1, a2, b3, x4, x5, A, c, l⟩, ?_, ⟨⟨c0, i64_wf w2, c3, hlen⟩, i1, i4, i5, hr⟩, hin⟩
  injection e0 with e0; injection e2 with e2; injection e3 with e3; injection e6 with e6
  simp only [KG.row]
  rw [← e1, ← e4, ← e5, e0, e2, e3, e6]
  rfl
theorem list8 {α : Type} {l : List α} (h : l.length = 8) : ∃ a b c d e f g i, l = [a, b, c, d, e, f, g, i] := by
  match l, h with
  | [a, b, c, d, e, f, g, i], _ => exact ⟨a, b, c, d, e, f, g, i, rfl⟩
set_option maxRecDepth 100000 in
theorem open_kp : ∀ (fuel : Nat), OpenP enc w base sp held fuel := by
  intro fuel
  induction fuel using Nat.strongRecOn with
  | ind fuel ih =>
    intro cs y h hw
    obtain ⟨f, parts, hf, hl, hy, hx⟩ := trod_struct_lt fsKP h
    rw [hy] at hw
    rw [cK14] at hl
    obtain ⟨v0, v1, v2, v3, v4, v5, v6, v7, rfl⟩ := list8 hl
    obtain ⟨z0, h0, -⟩ := hx 0 _ rfl
    obtain ⟨z1, h1, -⟩ := hx 1 _ rfl
    obtain ⟨z2, h2, -⟩ := hx 2 _ rfl
    obtain ⟨z3, h3, -⟩ := hx 3 _ rfl
    obtain ⟨z4, h4, q4⟩ := hx 4 _ rfl
    obtain ⟨z5, h5, q5⟩ := hx 5 _ rfl
    obtain ⟨z6, h6, q6⟩ := hx 6 _ rfl
    obtain ⟨z7, h7, q7⟩ := hx 7 _ rfl
    have l4 := hw.part fsKP (j := 4) rfl q4
    have l5 := hw.part fsKP (j := 5) rfl q5
    have l6 := hw.part fsKP (j := 6) rfl q6
    have l7 := hw.part fsKP (j := 7) rfl q7
    simp only [cK13, cK5, cK3, cK10, cK6, cK11, cK9] at h0 h1 h2 h3 h4 h5 h6 h7 l4 l5 l6 l7
    simp only [List.drop_succ_cons, List.drop_zero, List.take_succ_cons, List.take_zero] at h0 h1 h2 h3 h4 h5 h6 h7
    obtain ⟨a0, e0, w0⟩ := trod_int_inv Try.underlying24 h0
    obtain ⟨a1, e1, w1⟩ := trod_int_inv Try.underlying3 h1
    obtain ⟨a2, e2, w2⟩ := trod_int_inv Try.underlying3 h2
    obtain ⟨a3, e3, w3⟩ := trod_int_inv Try.underlying25 h3
    obtain ⟨A4, c4, x4, e4, i4⟩ := open_kpls h4 l4
    obtain ⟨A5, c5, x5, e5, i5⟩ := open_kes h5 l5
    obtain ⟨A6, c6, x6, e6, hlen6, hr6, i6⟩ := open_row (α := KG) (R := fun x => x.One w w.heap.size ∧ ∀ p ∈ x.body, p.In w w.heap.size) (cells := KG.row) (size := 18) cK15 (by decide) KG.row_len Try.underlying28 (of_decide_eq_true (by kernel_rfl))
      (fun f' c z hf' h1 h2 => open_kg_of (fun f'' hf'' => ih f'' (by omega)) h1 h2) h6 l6
    obtain ⟨A7, c7, x7, e7, hlen7, hr7, i7⟩ := open_kps_of (fun f' hf' => ih f' (by omega)) h7 l7
    obtain ⟨b0, rfl, c0⟩ := u8_wf w0
    obtain ⟨b3, rfl, c3⟩ := u8_wf w3
    injection e0 with e0; injection e1 with e1; injection e2 with e2; injection e3 with e3; injection e4 with e4; injection e5 with e5; injection e6 with e6; injection e7 with e7
    subst e0 e1 e2 e3 e4 e5 e6 e7
    exact ⟨⟨b0, a1, a2, b3, A4, c4, x4, A5, c5, x5, A6, c6, x6, A7, c7, x7⟩, rfl,
      KP.all_iff.2 ⟨⟨⟨c0, i64_wf w1, i64_wf w2, c3, hlen6, hlen7⟩, i4, i5, ⟨hr6, fun g hg => (i6 g hg).1⟩, hr7⟩, fun g hg => (i6 g hg).2, i7⟩⟩
/-- A variable's cells. -/
def KVar.cells (x : KVar) : Array Value := #[.int .u8 x.kind, .int .i64 x.dim]
instance : Inhabited KVar := ⟨⟨0, 0⟩⟩
def varsC (l : List KVar) : List Value := l.flatMap fun x => x.cells.toList
def hostsC (l : List Nat) : List Value := l.flatMap fun x => [Value.int .u8 (x : Nat)]
def intsC (l : List Int) : List Value := l.flatMap fun x => [Value.int .i64 x]
/-- A kernel's own parts in a world. -/
def KK.In (w : World) (B : Nat) (k : KK) : Prop :=
  (lenOk k.vars ∧ Reads w B 2 k.Av k.vars.length (varsC k.vars) ∧ ∀ x ∈ k.vars, x.kind ≤ 255 ∧ i64ok x.dim) ∧ (lenOk k.chans ∧ Reads w B 1 k.Ac k.chans.length (hostsC k.chans) ∧ ∀ x ∈ k.chans, x ≤ 255) ∧
    k.root.In w B ∧ (lenOk k.procs ∧ Reads w B 1 k.Ap k.procs.length (intsC k.procs) ∧ ∀ x ∈ k.procs, i64ok x)
def KK.row (k : KK) : List Value := .slice k.Av k.vars.length k.cv :: .slice k.Ac k.chans.length k.cc :: k.root.cells.toList ++ [.slice k.Ap k.procs.length k.cp]
def KK.cells (k : KK) : Array Value := #[.slice k.Av k.vars.length k.cv, .slice k.Ac k.chans.length k.cc, .agg k.root.cells, .slice k.Ap k.procs.length k.cp]
theorem KK.In.below {w' : World} {B : Nat} {k : KK} (h : k.In w B) (hb : Below B w w') : k.In w' B :=
  ⟨⟨h.1.1, h.1.2.1.below hb, h.1.2.2⟩, ⟨h.2.1.1, h.2.1.2.1.below hb, h.2.1.2.2⟩, h.2.2.1.below hb, h.2.2.2.1, h.2.2.2.2.1.below hb, h.2.2.2.2.2⟩
theorem KK.In.more {B B' : Nat} {k : KK} (h : k.In w B) (hB : B ≤ B') : k.In w B' :=
  ⟨⟨h.1.1, h.1.2.1.more hB, h.1.2.2⟩, ⟨h.2.1.1, h.2.1.2.1.more hB, h.2.1.2.2⟩, h.2.2.1.more hB, h.2.2.2.1, h.2.2.2.2.1.more hB, h.2.2.2.2.2⟩
theorem list11 {α : Type} {l : List α} (h : l.length = 11) : ∃ a b c d e f g i j k m, l = [a, b, c, d, e, f, g, i, j, k, m] := by
  match l, h with
  | [a, b, c, d, e, f, g, i, j, k, m], _ => exact ⟨a, b, c, d, e, f, g, i, j, k, m, rfl⟩
set_option maxRecDepth 100000 in
theorem open_var (h : DataW.trod enc Try.prog w base sp held fuel 82 cs = some y) : ∃ x : KVar, cs = x.cells.toList ∧ x.kind ≤ 255 ∧ i64ok x.dim := by
  obtain ⟨f, parts, hf, hl, hy, hx⟩ := trod_struct_lt fsVar h
  rw [cK16] at hl
  match cs, hl with
  | [v0, v1], _ =>
    obtain ⟨z0, h0, -⟩ := hx 0 _ rfl
    obtain ⟨z1, h1, q1⟩ := hx 1 _ rfl
    simp only [cK5, cK3] at h0 h1
    simp only [List.drop_succ_cons, List.drop_zero, List.take_succ_cons, List.take_zero] at h0 h1
    obtain ⟨a0, e0, w0⟩ := trod_int_inv Try.underlying25 h0
    obtain ⟨a1, e1, w1⟩ := trod_int_inv Try.underlying3 h1
    injection e0 with e0; injection e1 with e1
    subst e0 e1
    obtain ⟨b0, rfl, c0⟩ := u8_wf w0
    exact ⟨⟨b0, a1⟩, rfl, c0, i64_wf w1⟩
set_option maxRecDepth 100000 in
theorem open_kk (h : DataW.trod enc Try.prog w base sp held fuel 34 cs = some y) (hw : Light Try.prog 34 y.1) : ∃ k : KK, cs = k.row ∧ k.In w w.heap.size := by
  obtain ⟨f, parts, hf, hl, hy, hx⟩ := trod_struct_lt fsKK h
  rw [hy] at hw
  rw [cK21] at hl
  obtain ⟨v0, v1, v2, v3, v4, v5, v6, v7, v8, v9, v10, rfl⟩ := list11 hl
  obtain ⟨z0, h0, q0⟩ := hx 0 _ rfl
  obtain ⟨z1, h1, q1⟩ := hx 1 _ rfl
  obtain ⟨z2, h2, q2⟩ := hx 2 _ rfl
  obtain ⟨z3, h3, q3⟩ := hx 3 _ rfl
  have l0 := hw.part fsKK (j := 0) rfl q0
  have l1 := hw.part fsKK (j := 1) rfl q1
  have l2 := hw.part fsKK (j := 2) rfl q2
  have l3 := hw.part fsKK (j := 3) rfl q3
  simp only [cK17, cK18, cK14, cK19] at h0 h1 h2 h3 l0 l1 l2 l3
  simp only [List.drop_succ_cons, List.drop_zero, List.take_succ_cons, List.take_zero] at h0 h1 h2 h3
  obtain ⟨A0, c0, x0, e0, n0, r0, i0⟩ := open_row (α := KVar) (R := fun x => x.kind ≤ 255 ∧ i64ok x.dim) (cells := fun x => x.cells.toList) (size := 2) cK16 (by decide) (fun _ => rfl) Try.underlying22 (of_decide_eq_true (by kernel_rfl)) (fun f c z _ h1 h2 => open_var h1) h0 l0
  obtain ⟨A1, c1, x1, e1, n1, r1, i1⟩ := open_row (α := Nat) (R := fun x => x ≤ 255) (cells := fun x => [Value.int .u8 (x : Nat)]) (size := 1) cK20 (by decide) (fun _ => rfl) Try.underlying23 (of_decide_eq_true (by kernel_rfl)) (fun f c z _ h1 h2 => by
    obtain ⟨a0, e0, w0⟩ := trod_int_inv Try.underlying83 h1
    obtain ⟨b0, rfl, c0⟩ := u8_wf w0
    exact ⟨b0, e0, c0⟩) h1 l1
  obtain ⟨x2, e2, i2⟩ := open_kp _ _ _ h2 l2
  obtain ⟨A3, c3, x3, e3, n3, r3, i3⟩ := open_row (α := Int) (R := i64ok) (cells := fun x => [Value.int .i64 x]) (size := 1) cK5 (by decide) (fun _ => rfl) Try.underlying32 (of_decide_eq_true (by kernel_rfl)) (fun f c z _ h1 h2 => by
    obtain ⟨a0, e0, w0⟩ := trod_int_inv Try.underlying3 h1
    exact ⟨a0, e0, i64_wf w0⟩) h3 l3
  refine ⟨⟨A0, c0, x0, A1, c1, x1, x2, A3, c3, x3⟩, ?_, ⟨n0, r0, i0⟩, ⟨n1, r1, i1⟩, i2, n3, r3, i3⟩
  injection e0 with e0; injection e1 with e1; injection e3 with e3
  simp only [KK.row]
  rw [← e2, e0, e1, e3]
  rfl
end
end Go.Proofs.Ytekamebpjjkifaa

/- Plain words on how many processes are left, and on what a valid process has inside it. -/
namespace Go.Proofs.Ytekamebpjjkifaa
open Go.RowKit
set_option linter.unusedSimpArgs false
set_option linter.unusedVariables false

section
variable {vs : List KVar} {nc : Nat}
theorem roomP_eq (deep : Nat) (high : Bool) (left : Nat) (p : KP) : roomP vs nc deep high left p = if decide (32 ≤ deep) || decide (left = 0) || !checkB vs nc p || (high && p.kind == 11) then none
    else match roomPs vs nc (deep + 1) high (p.kind == 11) (left - 1) p.l with
      | none => none
      | some m => roomGs vs nc (deep + 1) high m p.g := by
  obtain ⟨kind, c, v, item, At, ct, tos, Ae, ce, e, Ag, cg, g, Al, cl, l⟩ := p
  rw [roomP]
  rfl
theorem roomG_eq (deep : Nat) (high : Bool) (left : Nat) (g : KG) : roomG vs nc deep high left g = match g.body with
    | [] => none
    | p :: _ => roomP vs nc deep high left p := by
  obtain ⟨_, _, _, _, _, _, _, _, body⟩ := g
  cases body <;> simp only [roomG]
theorem roomPs_append : ∀ (a b : List KP) (deep : Nat) (high first : Bool) (left : Nat), roomPs vs nc deep high first left (a ++ b) = match roomPs vs nc deep high first left a with
    | none => none
    | some r => roomPs vs nc deep high (first && a.isEmpty) r b
  | [], b, deep, high, first, left => by rw [roomPs]; simp
  | x :: a, b, deep, high, first, left => by
    rw [List.cons_append, roomPs, roomPs]
    cases roomP vs nc deep (high || first) left x with
    | none => rfl
    | some y =>
      simp only
      rw [roomPs_append a b deep high false y]
      simp
theorem roomPs_snoc {l : List KP} {k deep left r : Nat} {high first : Bool} {x : KP} (h : l[k]? = some x) (hr : roomPs vs nc deep high first left (l.take k) = some r) :
    roomPs vs nc deep high first left (l.take (k + 1)) = roomP vs nc deep (high || (first && decide (k = 0))) r x := by
  have hk : k < l.length := (List.getElem?_eq_some_iff.1 h).1
  have e : (first && (l.take k).isEmpty) = (first && decide (k = 0)) := by
    congr 1
    rw [Bool.eq_iff_iff, List.isEmpty_iff, List.take_eq_nil_iff, decide_eq_true_eq]
    constructor
    · rintro (h | rfl)
      · exact h
      · simp at hk
    · exact .inl
  rw [List.take_add_one, h, Option.toList_some, roomPs_append, hr]
  simp only [e]
  rw [roomPs]
  cases roomP vs nc deep (high || (first && decide (k = 0))) r x with
  | none => rfl
  | some y => simp only; rw [roomPs]
theorem roomPs_fail {l : List KP} {k deep left r : Nat} {high first : Bool} {x : KP} (h : l[k]? = some x) (hr : roomPs vs nc deep high first left (l.take k) = some r) (hx : roomP vs nc deep (high || (first && decide (k = 0))) r x = none) :
    roomPs vs nc deep high first left l = none := by
  have h1 : roomPs vs nc deep high first left (l.take (k + 1)) = none := by rw [roomPs_snoc h hr, hx]
  have h2 := roomPs_append (vs := vs) (nc := nc) (l.take (k + 1)) (l.drop (k + 1)) deep high first left
  rw [List.take_append_drop, h1] at h2
  exact h2
theorem roomGs_append : ∀ (a b : List KG) (deep : Nat) (high : Bool) (left : Nat), roomGs vs nc deep high left (a ++ b) = match roomGs vs nc deep high left a with
    | none => none
    | some r => roomGs vs nc deep high r b
  | [], b, deep, high, left => by rw [roomGs]; rfl
  | x :: a, b, deep, high, left => by
    rw [List.cons_append, roomGs, roomGs]
    cases roomG vs nc deep high left x with
    | none => rfl
    | some y => exact roomGs_append a b deep high y
theorem roomGs_snoc {l : List KG} {k deep left r : Nat} {high : Bool} {x : KG} (h : l[k]? = some x) (hr : roomGs vs nc deep high left (l.take k) = some r) :
    roomGs vs nc deep high left (l.take (k + 1)) = roomG vs nc deep high r x := by
  rw [List.take_add_one, h, Option.toList_some, roomGs_append, hr]
  simp only
  rw [roomGs]
  cases roomG vs nc deep high r x with
  | none => rfl
  | some y => simp only; rw [roomGs]
theorem roomGs_fail {l : List KG} {k deep left r : Nat} {high : Bool} {x : KG} (h : l[k]? = some x) (hr : roomGs vs nc deep high left (l.take k) = some r) (hx : roomG vs nc deep high r x = none) :
    roomGs vs nc deep high left l = none := by
  have h1 : roomGs vs nc deep high left (l.take (k + 1)) = none := by rw [roomGs_snoc h hr, hx]
  have h2 := roomGs_append (vs := vs) (nc := nc) (l.take (k + 1)) (l.drop (k + 1)) deep high left
  rw [List.take_append_drop, h1] at h2
  exact h2
theorem roomPs_le_of : ∀ {l : List KP} {deep left r : Nat} {high first : Bool}, (∀ p ∈ l, ∀ (d : Nat) (h : Bool) (a r : Nat), roomP vs nc d h a p = some r → r ≤ a) → roomPs vs nc deep high first left l = some r → r ≤ left
  | [], deep, left, r, high, first, _, h => by rw [roomPs] at h; cases h; exact Nat.le_refl _
  | x :: l, deep, left, r, high, first, hall, h => by
    rw [roomPs] at h
    cases hx : roomP vs nc deep (high || first) left x with
    | none => rw [hx] at h; cases h
    | some y =>
      rw [hx] at h
      have h1 := hall x (by simp) _ _ _ _ hx
      have h2 := roomPs_le_of (l := l) (fun e he => hall e (by simp [he])) h
      omega
theorem roomGs_le_of : ∀ {l : List KG} {deep left r : Nat} {high : Bool}, (∀ g ∈ l, ∀ p ∈ g.body, ∀ (d : Nat) (h : Bool) (a r : Nat), roomP vs nc d h a p = some r → r ≤ a) → roomGs vs nc deep high left l = some r → r ≤ left
  | [], deep, left, r, high, _, h => by rw [roomGs] at h; cases h; exact Nat.le_refl _
  | x :: l, deep, left, r, high, hall, h => by
    rw [roomGs] at h
    cases hx : roomG vs nc deep high left x with
    | none => rw [hx] at h; cases h
    | some y =>
      rw [hx] at h
      have h2 := roomGs_le_of (l := l) (fun e he => hall e (by simp [he])) h
      have h1 : y ≤ left := by
        rw [roomG_eq] at hx
        split at hx
        · cases hx
        · rename_i p r hb
          exact hall x (by simp) p (by rw [hb]; simp) _ _ _ _ hx
      omega
theorem roomP_le (p : KP) : ∀ (d : Nat) (h : Bool) (a r : Nat), roomP vs nc d h a p = some r → r ≤ a := by
  induction p using KP.ind with
  | h p ih1 ih2 =>
    intro d h a r hr
    rw [roomP_eq] at hr
    split at hr
    · cases hr
    · cases hx : roomPs vs nc (d + 1) h (p.kind == 11) (a - 1) p.l with
      | none => rw [hx] at hr; cases hr
      | some m =>
        rw [hx] at hr
        have h1 := roomPs_le_of (fun x hx => ih2 x hx) hx
        have h2 := roomGs_le_of (fun g hg x hx => ih1 g hg x hx) hr
        omega
theorem roomG_le (g : KG) (d : Nat) (h : Bool) (a r : Nat) (hr : roomG vs nc d h a g = some r) : r ≤ a := by
  rw [roomG_eq] at hr
  split at hr
  · cases hr
  · exact roomP_le _ _ _ _ _ hr
theorem roomPs_le {l : List KP} {deep left r : Nat} {high first : Bool} (h : roomPs vs nc deep high first left l = some r) : r ≤ left := roomPs_le_of (fun p _ => roomP_le p) h
theorem roomGs_le {l : List KG} {deep left r : Nat} {high : Bool} (h : roomGs vs nc deep high left l = some r) : r ≤ left := roomGs_le_of (fun g _ p _ => roomP_le p) h
theorem roomPs_some : ∀ {l : List KP} {deep left r : Nat} {high first : Bool}, roomPs vs nc deep high first left l = some r → ∀ p ∈ l, ∃ h a b, roomP vs nc deep h a p = some b
  | [], _, _, _, _, _, _, p, hp => by cases hp
  | x :: l, deep, left, r, high, first, h, p, hp => by
    rw [roomPs] at h
    cases hx : roomP vs nc deep (high || first) left x with
    | none => rw [hx] at h; cases h
    | some y =>
      rw [hx] at h
      rcases List.mem_cons.1 hp with rfl | hp
      · exact ⟨_, _, _, hx⟩
      · exact roomPs_some h p hp
theorem roomGs_some : ∀ {l : List KG} {deep left r : Nat} {high : Bool}, roomGs vs nc deep high left l = some r → ∀ g ∈ l, ∃ a b, roomG vs nc deep high a g = some b
  | [], _, _, _, _, _, p, hp => by cases hp
  | x :: l, deep, left, r, high, h, p, hp => by
    rw [roomGs] at h
    cases hx : roomG vs nc deep high left x with
    | none => rw [hx] at h; cases h
    | some y =>
      rw [hx] at h
      rcases List.mem_cons.1 hp with rfl | hp
      · exact ⟨_, _, hx⟩
      · exact roomGs_some h p hp
theorem guardB_body {choice : Bool} {g : KG} (h : guardB vs nc choice g = true) : ∃ p, g.body = [p] := by
  have h1 : g.body.length = 1 := by
    unfold guardB at h
    simp only [Bool.and_eq_true, decide_eq_true_eq] at h
    exact h.1.1
  match hb : g.body, h1 with
  | [p], _ => exact ⟨p, rfl⟩
theorem checkB_guards {p : KP} (h : checkB vs nc p = true) : ∀ g ∈ p.g, ∃ c, guardB vs nc c g = true := by
  intro g hg
  have h0 : p.g ≠ [] := by rintro h; rw [h] at hg; cases hg
  have hl : 0 < p.g.length := List.length_pos_iff.2 h0
  unfold checkB at h
  split at h
  all_goals first
    | (cases h; done)
    | (simp only [shapeB, Bool.and_eq_true, decide_eq_true_eq] at h; omega)
    | (simp only [Bool.and_eq_true, List.all_eq_true] at h; exact ⟨_, h.2 g hg⟩)
/-- Every process inside a valid one is right. -/
theorem roomP_all (p : KP) : ∀ {d : Nat} {h : Bool} {a r : Nat}, roomP vs nc d h a p = some r → p.all (fun x => checkB vs nc x = true) := by
  induction p using KP.ind with
  | h p ih1 ih2 =>
    intro d h a r hr
    rw [roomP_eq] at hr
    split at hr
    · cases hr
    · rename_i hc
      have hck : checkB vs nc p = true := by cases hf : checkB vs nc p with | true => rfl | false => rw [hf] at hc; simp at hc
      cases hx : roomPs vs nc (d + 1) h (p.kind == 11) (a - 1) p.l with
      | none => rw [hx] at hr; cases hr
      | some m =>
        rw [hx] at hr
        rw [KP.all_iff]
        refine ⟨hck, fun g hg x hxb => ?_, fun x hxl => ?_⟩
        · obtain ⟨a', b', hg'⟩ := roomGs_some hr g hg
          obtain ⟨ch, hgb⟩ := checkB_guards hck g hg
          obtain ⟨q, hq⟩ := guardB_body hgb
          rw [hq] at hxb
          obtain rfl : x = q := by simpa using hxb
          rw [roomG_eq, hq] at hg'
          exact ih1 g hg x (by rw [hq]; simp) hg'
        · obtain ⟨h', a', b', hp'⟩ := roomPs_some hx x hxl
          exact ih2 x hxl hp'
end
end Go.Proofs.Ytekamebpjjkifaa

/- The ends of channels in a process, and the channels between branches, in plain words. -/
namespace Go.Proofs.Ytekamebpjjkifaa
open Go.RowKit
set_option linter.unusedSimpArgs false
set_option linter.unusedVariables false

mutual
/-- The ends of channels in a process: the channel, and whether it is output to. -/
def endsP : KP → List (Int × Bool)
  | ⟨kind, c, _, _, _, _, _, _, _, _, _, _, g, _, _, l⟩ => (if kind = 6 then [(c, true)] else if kind = 5 then [(c, false)] else []) ++ (endsPs l ++ endsGs g)
def endsPs : List KP → List (Int × Bool)
  | [] => []
  | p :: l => endsP p ++ endsPs l
def endsGs : List KG → List (Int × Bool)
  | [] => []
  | g :: l => endsG g ++ endsGs l
def endsG : KG → List (Int × Bool)
  | ⟨kind, _, c, _, _, _, _, _, body⟩ => (if kind = 3 then [(c, false)] else []) ++ (match body with
    | [] => []
    | p :: _ => endsP p)
end
theorem endsP_eq (p : KP) : endsP p = (if p.kind = 6 then [(p.c, true)] else if p.kind = 5 then [(p.c, false)] else []) ++ (endsPs p.l ++ endsGs p.g) := by
  obtain ⟨kind, c, v, item, At, ct, tos, Ae, ce, e, Ag, cg, g, Al, cl, l⟩ := p
  rw [endsP]
theorem endsG_eq (g : KG) : endsG g = (if g.kind = 3 then [(g.c, false)] else []) ++ (match g.body with
    | [] => []
    | p :: _ => endsP p) := by
  obtain ⟨_, _, _, _, _, _, _, _, body⟩ := g
  cases body <;> simp only [endsG]
theorem endsPs_append : ∀ a b : List KP, endsPs (a ++ b) = endsPs a ++ endsPs b
  | [], b => by rw [endsPs]; rfl
  | x :: a, b => by rw [List.cons_append, endsPs, endsPs, endsPs_append a b, List.append_assoc]
theorem endsGs_append : ∀ a b : List KG, endsGs (a ++ b) = endsGs a ++ endsGs b
  | [], b => by rw [endsGs]; rfl
  | x :: a, b => by rw [List.cons_append, endsGs, endsGs, endsGs_append a b, List.append_assoc]
theorem endsPs_snoc {l : List KP} {k : Nat} {x : KP} (h : l[k]? = some x) : endsPs (l.take (k + 1)) = endsPs (l.take k) ++ endsP x := by
  rw [List.take_add_one, h, Option.toList_some, endsPs_append, endsPs, endsPs, List.append_nil]
theorem endsGs_snoc {l : List KG} {k : Nat} {x : KG} (h : l[k]? = some x) : endsGs (l.take (k + 1)) = endsGs (l.take k) ++ endsG x := by
  rw [List.take_add_one, h, Option.toList_some, endsGs_append, endsGs, endsGs, List.append_nil]
theorem endsPs_mem {x : Int × Bool} : ∀ {l : List KP}, x ∈ endsPs l ↔ ∃ p ∈ l, x ∈ endsP p
  | [] => by simp [endsPs]
  | p :: l => by rw [endsPs, List.mem_append, endsPs_mem (l := l)]; simp
theorem endsGs_mem {x : Int × Bool} : ∀ {l : List KG}, x ∈ endsGs l ↔ ∃ g ∈ l, x ∈ endsG g
  | [] => by simp [endsGs]
  | p :: l => by rw [endsGs, List.mem_append, endsGs_mem (l := l)]; simp
section
variable {vs : List KVar} {nc : Nat}
theorem channelB_in {c : Int} {item : Nat} {no : Int} (h : channelB nc c item no = true) : 0 ≤ c ∧ c < nc := by
  simp only [channelB, Bool.and_eq_true, decide_eq_true_eq] at h
  omega
/-- The channels of a right process are channels of its kernel. -/
theorem ends_in (p : KP) (h : p.all (fun x => checkB vs nc x = true)) : ∀ x ∈ endsP p, 0 ≤ x.1 ∧ x.1 < nc := by
  induction p using KP.ind with
  | h p ih1 ih2 =>
    rw [KP.all_iff] at h
    obtain ⟨hc, hg, hl⟩ := h
    intro x hx
    rw [endsP_eq, List.mem_append, List.mem_append] at hx
    rcases hx with hx | hx | hx
    · by_cases h6 : p.kind = 6
      · rw [if_pos h6] at hx
        obtain rfl := List.mem_singleton.1 hx
        unfold checkB at hc
        rw [h6] at hc
        simp only [Bool.and_eq_true] at hc
        exact channelB_in hc.1.2
      · rw [if_neg h6] at hx
        by_cases h5 : p.kind = 5
        · rw [if_pos h5] at hx
          obtain rfl := List.mem_singleton.1 hx
          unfold checkB at hc
          rw [h5] at hc
          simp only [Bool.and_eq_true, inputA] at hc
          have h2 := hc.2
          split at h2
          · simp only [inputB, Bool.and_eq_true] at h2
            exact channelB_in h2.1
          · cases h2
        · rw [if_neg h5] at hx
          cases hx
    · obtain ⟨q, hq, hxq⟩ := endsPs_mem.1 hx
      exact ih2 q hq (hl q hq) x hxq
    · obtain ⟨g, hgm, hxg⟩ := endsGs_mem.1 hx
      obtain ⟨ch, hgb⟩ := checkB_guards hc g hgm
      rw [endsG_eq, List.mem_append] at hxg
      rcases hxg with hxg | hxg
      · by_cases h3 : g.kind = 3
        · rw [if_pos h3] at hxg
          obtain rfl := List.mem_singleton.1 hxg
          unfold guardB at hgb
          rw [h3] at hgb
          simp only [Bool.and_eq_true, inputB] at hgb
          exact channelB_in hgb.2.2.1
        · rw [if_neg h3] at hxg
          cases hxg
      · split at hxg
        · cases hxg
        · rename_i q r hb
          exact ih1 g hgm q (by rw [hb]; simp) (hg g hgm q (by rw [hb]; simp)) x hxg
end
/-- The branches of a kernel. -/
def branchesK (k : KK) : List KP := if k.procs.length = 0 then [k.root] else k.root.l
/-- The branches that have an end, counted from i on. -/
def usersL (x : Int × Bool) : Nat → List KP → List Nat
  | _, [] => []
  | i, p :: l => (if x ∈ endsP p then [i] else []) ++ usersL x (i + 1) l
/-- The channel c as one between branches; none: two branches have the same end. -/
def betweenC (bs : List KP) (c : Nat) : Option (List (Int × Int × Int)) :=
  match usersL ((c : Int), true) 0 bs, usersL ((c : Int), false) 0 bs with
  | _ :: _ :: _, _ => none
  | _, _ :: _ :: _ => none
  | from_, dst =>
    some (if c = 0 then (match dst with | [i] => [(0, -1, (i : Int))] | _ => [])
      else if c = 1 then (match from_ with | [i] => [(1, (i : Int), -1)] | _ => [])
      else match from_, dst with
        | [i], [j] => if i ≠ j then [((c : Int), (i : Int), (j : Int))] else []
        | _, _ => [])
/-- The first n channels. -/
def betweenN (bs : List KP) : Nat → Option (List (Int × Int × Int))
  | 0 => some []
  | n + 1 => match betweenN bs n with
    | none => none
    | some l => match betweenC bs n with
      | none => none
      | some m => some (l ++ m)
def betweenK (k : KK) : Option (List (Int × Int × Int)) := betweenN (branchesK k) k.chans.length
theorem usersL_mem {x : Int × Bool} : ∀ {l : List KP} {i j : Nat}, j ∈ usersL x i l ↔ i ≤ j ∧ ∃ p, l[j - i]? = some p ∧ x ∈ endsP p
  | [], i, j => by simp [usersL]
  | p :: l, i, j => by
    rw [usersL, List.mem_append, usersL_mem (l := l)]
    constructor
    · rintro (h | ⟨h1, q, h2, h3⟩)
      · split at h
        · rename_i hx
          obtain rfl := List.mem_singleton.1 h
          exact ⟨Nat.le_refl _, p, by simp, hx⟩
        · cases h
      · refine ⟨by omega, q, ?_, h3⟩
        rw [show j - i = (j - (i + 1)) + 1 by omega, List.getElem?_cons_succ]
        exact h2
    · rintro ⟨h1, q, h2, h3⟩
      rcases Nat.eq_or_lt_of_le h1 with rfl | hlt
      · simp at h2; subst h2
        rw [if_pos h3]; exact .inl (by simp)
      · refine .inr ⟨by omega, q, ?_, h3⟩
        rw [show j - i = (j - (i + 1)) + 1 by omega, List.getElem?_cons_succ] at h2
        exact h2
theorem usersL_append (x : Int × Bool) : ∀ (a b : List KP) (i : Nat), usersL x i (a ++ b) = usersL x i a ++ usersL x (i + a.length) b
  | [], b, i => by simp [usersL]
  | p :: a, b, i => by
    rw [List.cons_append, usersL, usersL, usersL_append x a b (i + 1), List.append_assoc, List.length_cons, show i + 1 + a.length = i + (a.length + 1) by omega]
theorem usersL_snoc {x : Int × Bool} {l : List KP} {k : Nat} {p : KP} (h : l[k]? = some p) : usersL x 0 (l.take (k + 1)) = usersL x 0 (l.take k) ++ (if x ∈ endsP p then [k] else []) := by
  have hk : k < l.length := (List.getElem?_eq_some_iff.1 h).1
  rw [List.take_add_one, h, Option.toList_some, usersL_append, usersL, usersL, List.append_nil, Nat.zero_add, List.length_take, Nat.min_eq_left (by omega)]
theorem usersL_take_sub {x : Int × Bool} {l : List KP} {k : Nat} : ∀ j ∈ usersL x 0 (l.take k), j ∈ usersL x 0 l := by
  intro j hj
  have h2 := usersL_append x (l.take k) (l.drop k) 0
  rw [List.take_append_drop] at h2
  rw [h2, List.mem_append]
  exact .inl hj
/-- No two branches have the same end. -/
def Unclash (bs : List KP) : Prop := ∀ x, (usersL x 0 bs).length ≤ 1
/-- Every guard has one process in it. -/
def Bodies (p : KP) : Prop := ∀ g ∈ p.g, ∃ q, g.body = [q]
end Go.Proofs.Ytekamebpjjkifaa

/- Words on a range over a function: the wide fence, what a round keeps, an invariant that abides new blocks. -/
namespace Go.Proofs.Ytekamebpjjkifaa
open Go.RowKit
set_option linter.unusedVariables false
set_option linter.unusedSimpArgs false

theorem arrivesIn_wide {P : Program} {m : Machine} {b : Frame} (hro : b.roundOf = none) {k : List Item} {cs : List Frame} {e : Exit} {a : Act} {w : World} (h : Arrives P m b k cs e a w) :
    ArrivesIn (Machine.fenced P Fence.wide) P m b k cs e a w := by
  have hs : b.roundOf.isSome = true → False := fun h => by rw [hro] at h; cases h
  cases e with
  | normal => exact stepsIn_wide.2 (by rw [Frame.atR_of_none hro]; exact h)
  | exit id => exact ⟨fun k' hk => stepsIn_wide.2 (by rw [Frame.atR_of_none hro]; exact h k' hk), fun h => (hs h).elim⟩
  | goto l => exact ⟨fun k' hk => stepsIn_wide.2 (by rw [Frame.atR_of_none hro]; exact h k' hk), fun h => (hs h).elim⟩
  | ret =>
    obtain ⟨todo, hq⟩ := h
    exact ⟨fun _ => ⟨todo, stepsIn_wide.2 (by rw [Frame.atR_of_none hro]; exact hq)⟩, fun h => (hs h).elim⟩
  | panic chain =>
    obtain ⟨todo, hq⟩ := h
    exact ⟨todo, stepsIn_wide.2 (by rw [Frame.atR_of_none hro]; exact hq)⟩
  | outgrown => exact h
/-- At the wide fence, outside every round, a walk without a fence serves. -/
theorem wpIn_wide_of_wp {P : Program} {n : Nat} {c : Code} {Q : Exit → Act → World → Prop} {a : Act} {w : World} (h : c.wp P Q a w) : c.wpIn Fence.wide n P Q a w := by
  intro b k cs hro hb hr
  obtain ⟨e, a', w', hq, harr⟩ := h b k cs
  refine ⟨e, a', w', hq, arrivesIn_wide hro ?_⟩
  rw [Frame.atR_of_none hro]; exact harr

/-- All blocks of cells but those of X lie as they lay. -/
structure KeepC (X : Nat → Prop) (A B : World) : Prop where
  size : A.heap.size ≤ B.heap.size
  block : ∀ k cs t f, ¬ X k → A.heap[k]? = some (.cells cs t f) → B.heap[k]? = some (.cells cs t f)
theorem KeepC.refl (X : Nat → Prop) (A : World) : KeepC X A A := ⟨Nat.le_refl _, fun _ _ _ _ _ h => h⟩
theorem KeepC.trans {X : Nat → Prop} {A B C : World} (h : KeepC X A B) (k : KeepC X B C) : KeepC X A C :=
  ⟨Nat.le_trans h.size k.size, fun i cs t f hx ho => k.block i cs t f hx (h.block i cs t f hx ho)⟩
theorem KeepC.put (X : Nat → Prop) (W : World) (l : Nat) (o o' : Obj) (h : W.heap[l]? = some o) (hc : o.isCells = false) : KeepC X W (W.putObj l o') := by
  refine ⟨by simp [World.putObj], fun k cs t f _ ho => ?_⟩
  by_cases hk : k = l
  · subst hk; rw [h] at ho; injection ho with ho; subst ho; cases hc
  · rw [World.putObj_heap_other hk]; exact ho
theorem KeepC.alloc (X : Nat → Prop) (A : World) (o : Obj) : KeepC X A (A.alloc o) :=
  ⟨by simp, fun k cs t f _ h => (Below.heap_alloc A o k (Array.getElem?_eq_some_iff.1 h).1).trans h⟩
theorem KeepC.set (X : Nat → Prop) (A : World) {p : Addr} (hp : X p.block) (u : Value) : KeepC X A (A.setCell p u) :=
  ⟨by simp, fun k cs t f hk h => (Below.heap_setCell A p u k (by rintro rfl; exact hk hp)).trans h⟩
theorem abides_below {β : Type} {B : Nat} {J : β → World → Prop} (h : AbidesFrom B J) {s : β} {W W' : World} (hs : J s W) (hb : Below W.heap.size W W') : J s W' :=
  h s W W' none hs ⟨hb.os, hb.tape, hb.output, hb.size, fun k hk _ => hb.block k hk⟩ (fun r e => by cases e)
end Go.Proofs.Ytekamebpjjkifaa

/- A range over a function whose body may leave the loop: one law. -/
namespace Go.Proofs.Ytekamebpjjkifaa
open Go.RowKit
set_option linter.unusedVariables false
set_option linter.unusedSimpArgs false

theorem _root_.Go.RowKit.Below.putObj {B : Nat} {a w : World} (h : Below B a w) {b : Nat} (hb : B ≤ b) (o : Obj) : Below B a (w.putObj b o) :=
  h.trans ⟨rfl, rfl, rfl, by simp [World.putObj], fun k hk => World.putObj_heap_other (by omega)⟩
/-- An invariant that speaks of blocks below B alone. -/
def Deep {β : Type} (B : Nat) (J : β → World → Prop) : Prop :=
  ∀ s W W', J s W → Below B W W' → J s W'
/-- The iterator hands over xs, or a part of it where a round has said 'no more', whatever the body does within its word. -/
def SeqUntil {α : Type} (F : Fence) (n : Nat) (P : Program) (gf : Nat) (lb : Array Value) (encs : α → Array Value) (X : Nat → Prop) (xs : List α) (w : World) : Prop :=
  ∀ (l : Nat) (J Jx : List α → World → Prop) (W : World), Below w.heap.size w W → Deep W.heap.size J → Deep W.heap.size Jx →
    (∀ pre x r W1, J pre W1 → xs = pre ++ x :: r → YieldAt F (n - 1) P l (encs x) W1 fun e W' => (e = .returned (.bool true) ∧ J (pre ++ [x]) W' ∧ KeepC X W1 W') ∨ (e = .returned (.bool false) ∧ Jx (pre ++ [x]) W')) →
    J [] W → CallsIn F n P gf (#[.func (.yield l) #[] #[]] ++ lb) W fun e W' => (∃ v, e = .returned v) ∧ (J xs W' ∨ ∃ pre x r, xs = pre ++ x :: r ∧ Jx (pre ++ [x]) W')

def goesOnX (X : Nat → Prop) (W : World) (R : World → Prop) (Rx : Code → World → Prop) : Exit → Act → World → Prop
  | .normal, _, W' => KeepC X W W' ∧ KeepsOthers W W' ∧ R W'
  | .ret, _, W' => KeepsOthers W W' ∧ Rx .ret W'
  | .exit id, _, W' => KeepsOthers W W' ∧ Rx (.exit id) W'
  | .goto t, _, W' => KeepsOthers W W' ∧ Rx (.goto t) W'
  | _, _, _ => False

theorem wpIn_range_until {P : Program} {F : Fence} {n : Nat} {α : Type} {g : Operand} {ps : Array Tmp} {assign body : Code} {Q : Exit → Act → World → Prop} {a : Act} {w : World}
    (hro : F.round = none) (hdp : F.depth = none) {gf : Nat} {lb : Array Value} (hg : a.eval g = .func (.func gf) #[] lb) (hFg : F.fn gf) (eg : ∀ args w, (callFunc gf args).run P w = .ok (.enter gf args) w)
    {encs : α → Array Value} {X : Nat → Prop} {xs : List α} {w0 : World} (hseq : SeqUntil F (n - 1) P gf lb encs X xs w0) (hb0 : Below w0.heap.size w0 w) (hps : ∀ x, (encs x).size = ps.size)
    (I : List α → World → Prop) (Ix : Code → List α → World → Prop) (hI : Deep w.heap.size I) (hIx : ∀ c, Deep w.heap.size (Ix c)) (h0 : I [] w)
    (hround : ∀ (l : Nat) (pre : List α) (x : α) (r : List α) (W : World), I pre W → xs = pre ++ x :: r → w.heap.size + 2 ≤ W.heap.size →
      assign.wpIn (F.inRound l) (n - 1 - 1) P (Exit.then (fun a₁ W1 => KeepC X W W1 ∧ KeepsOthers W W1 ∧
        ∀ W2, W1.grownBy W2 (some l) → (w.heap.size ≤ l ∧ l < w.heap.size + 2) → body.wpIn (F.inRound l) (n - 1 - 1) P (goesOnX X W2 (I (pre ++ [x])) (fun c => Ix c (pre ++ [x]))) a₁ W2) (fun _ _ _ => False))
        { tmps := (ps.zip (encs x)).foldl (fun t (p, v) => t.setIfInBounds p v) a.tmps, defers := [] } W)
    (hdone : ∀ (D : Nat) (W : World), I xs W → W.heap[D]? = some (.deferred (some [])) → w.heap.size ≤ D → Q .normal { a with defers := { target := .collected D, args := #[] } :: a.defers } W)
    (hstop : ∀ (D : Nat) (c : Code) (pre : List α) (x : α) (r : List α) (W : World), xs = pre ++ x :: r → Ix c (pre ++ [x]) W → W.heap[D]? = some (.deferred (some [])) → w.heap.size ≤ D → c.wpIn F n P Q { a with defers := { target := .collected D, args := #[] } :: a.defers } W) :
    (Code.rangeFunc g ps assign body).wpIn F n P Q a w := by
  refine wpIn_rangeFunc ?_
  intro fn hfn
  rw [hro]
  obtain ⟨rec, hrec⟩ : ∃ rec : LoopState → Option Code → Loop, rec = fun st pe => { state := st, pending := pe, fn, tmps := a.tmps, params := ps, assign, body, defers := w.heap.size } := ⟨_, rfl⟩
  obtain ⟨W1, hW1⟩ : ∃ W1, (w.alloc (.deferred (some []))).alloc (.loop (rec .ready none)) = W1 := ⟨_, rfl⟩
  have hsz : W1.heap.size = w.heap.size + 2 := by rw [← hW1]; simp
  have hL1 : W1.heap[w.heap.size + 1]? = some (.loop (rec .ready none)) := by
    rw [← hW1]; have := World.alloc_heap_new (w.alloc (.deferred (some []))) (.loop (rec .ready none)); rwa [World.size_alloc] at this
  have hK1 : W1.heap[w.heap.size]? = some (.deferred (some [])) := by
    rw [← hW1]; exact (Below.heap_alloc _ _ _ (by simp)).trans (World.alloc_heap_new w _)
  have hI1 : I [] W1 := by
    rw [← hW1]
    exact hI _ _ _ h0 (((Below.refl _ _).alloc (Nat.le_refl _) _).alloc (by simp) _)
  have hb1 : Below w0.heap.size w0 W1 := by
    rw [← hW1]; exact hb0.trans ((((Below.refl _ w).alloc (Nat.le_refl _) _).alloc (by simp) _).mono hb0.size)
  refine ⟨w.heap.size + 1, [{ target := .collected w.heap.size, args := #[] }], W1, { target := .fn (.func gf) lb, args := #[.func (.yield (w.heap.size + 1)) #[] #[]] }, W1, gf,
    #[.func (.yield (w.heap.size + 1)) #[] #[]] ++ lb, W1, ?_, ?_, ?_, ?_, (fun h => by rw [hdp] at h; cases h), ?_⟩
  · rw [← hW1, hrec]; exact run_enterLoop_outer _ _ _ _ _
  · simp only [resolve, hg]
    simp [go_sem]
  · intro f' hf'; simp [Target.leads] at hf'; subst hf'; exact hFg
  · simp [invoke, go_sem, eg]
  · refine (hseq (w.heap.size + 1)
      (fun pre W => I pre W ∧ W.heap[w.heap.size + 1]? = some (.loop (rec .ready none)) ∧ W.heap[w.heap.size]? = some (.deferred (some [])) ∧ w.heap.size + 2 ≤ W.heap.size)
      (fun pre W => ∃ c, Ix c pre W ∧ W.heap[w.heap.size + 1]? = some (.loop (rec .done (some c))) ∧ W.heap[w.heap.size]? = some (.deferred (some [])))
      W1 hb1 ?_ ?_ ?_ ⟨hI1, hL1, hK1, by omega⟩).mono ?_
    · rintro s A B ⟨hs, hl, hk, hz⟩ hgr
      refine ⟨hI s A B hs (hgr.mono (by omega)), ?_, ?_, Nat.le_trans hz hgr.size⟩
      · rw [hgr.block _ (by omega)]; exact hl
      · rw [hgr.block _ (by omega)]; exact hk
    · rintro s A B ⟨c, hs, hl, hk⟩ hgr
      refine ⟨c, hIx c s A B hs (hgr.mono (by omega)), ?_, ?_⟩
      · rw [hgr.block _ (by omega)]; exact hl
      · rw [hgr.block _ (by omega)]; exact hk
    · rintro pre x r W ⟨hi, hl, hk, hz⟩ hxs
      have hy := run_yield (P := P) (args := encs x) hl (by rw [hrec]; exact hps x)
      rw [hrec] at hy
      refine ⟨fn, _, assign, body, hy, roundIn_of_wpIn hfn (wpIn_mono (hround (w.heap.size + 1) pre x r W hi hxs hz) ?_)⟩
      rintro e a1 W2 hp
      cases e with
      | normal =>
        obtain ⟨hkx, hlp, hbody⟩ := hp
        have hl2 := hlp.same _ _ hl rfl
        have hk2 := hlp.same _ _ hk rfl
        refine ⟨_, run_beginRound hl2 (by rw [hrec]), ?_⟩
        have hl3 : (W2.putObj (w.heap.size + 1) (.loop { rec .ready none with state := .busy })).heap[w.heap.size + 1]? = some (.loop { rec .ready none with state := .busy }) := World.putObj_heap_same (Array.getElem?_eq_some_iff.1 hl2).1
        have hk3 : (W2.putObj (w.heap.size + 1) (.loop { rec .ready none with state := .busy })).heap[w.heap.size]? = some (.deferred (some [])) := (World.putObj_heap_other (by omega)).trans hk2
        have kx3 := hkx.trans (KeepC.put X W2 _ _ (.loop { rec .ready none with state := .busy }) hl2 rfl)
        have fin : ∀ (jump : Option Code) (W3 : World), KeepsOthers (W2.putObj (w.heap.size + 1) (.loop { rec .ready none with state := .busy })) W3 →
            (Instr.endRound (w.heap.size + 1) jump).run P W3 = .ok (.bool jump.isNone) (W3.putObj (w.heap.size + 1) (.loop (rec (if jump.isNone then .ready else .done) jump))) ∧
            W3.heap[w.heap.size + 1]? = some (.loop { rec .ready none with state := .busy }) ∧
            (W3.putObj (w.heap.size + 1) (.loop (rec (if jump.isNone then .ready else .done) jump))).heap[w.heap.size + 1]? = some (.loop (rec (if jump.isNone then .ready else .done) jump)) ∧
            (W3.putObj (w.heap.size + 1) (.loop (rec (if jump.isNone then .ready else .done) jump))).heap[w.heap.size]? = some (.deferred (some [])) := fun jump W3 hk4 => by
          have hl4 := hk4.same _ _ hl3 rfl
          have := run_endRound (P := P) jump hl4
          rw [hrec] at this ⊢
          exact ⟨this, by rw [hrec] at hl4; exact hl4, World.putObj_heap_same (Array.getElem?_eq_some_iff.1 hl4).1, (World.putObj_heap_other (by omega)).trans (hk4.same _ _ hk3 rfl)⟩
        refine wpIn_mono (hbody _ (grownBy_putObj' W2 _ _) ⟨by omega, by omega⟩) ?_
        rintro e a2 W4 hp4
        cases e with
        | normal =>
          obtain ⟨kx4, lp4, hi4⟩ := hp4
          obtain ⟨hr, hl4, hl5, hk5⟩ := fin none W4 lp4
          refine ⟨_, _, hr, .inl ⟨rfl, ⟨hI _ _ _ hi4 ((Below.refl _ _).putObj (by omega) _), hl5, hk5, ?_⟩, (kx3.trans kx4).trans (KeepC.put X W4 _ _ _ hl4 rfl)⟩⟩
          have h1 := (kx3.trans kx4).size
          simp [World.putObj] at h1 ⊢; omega
        | ret =>
          obtain ⟨lp4, hi4⟩ := hp4
          obtain ⟨hr, hl4, hl5, hk5⟩ := fin (some .ret) W4 lp4
          exact ⟨_, _, hr, .inr ⟨rfl, .ret, hIx _ _ _ _ hi4 ((Below.refl _ _).putObj (by omega) _), hl5, hk5⟩⟩
        | exit id =>
          obtain ⟨lp4, hi4⟩ := hp4
          obtain ⟨hr, hl4, hl5, hk5⟩ := fin (some (.exit id)) W4 lp4
          exact ⟨_, _, hr, .inr ⟨rfl, .exit id, hIx _ _ _ _ hi4 ((Below.refl _ _).putObj (by omega) _), hl5, hk5⟩⟩
        | goto t =>
          obtain ⟨lp4, hi4⟩ := hp4
          obtain ⟨hr, hl4, hl5, hk5⟩ := fin (some (.goto t)) W4 lp4
          exact ⟨_, _, hr, .inr ⟨rfl, .goto t, hIx _ _ _ _ hi4 ((Below.refl _ _).putObj (by omega) _), hl5, hk5⟩⟩
        | _ => exact hp4.elim
      | _ => exact hp.elim
    · rintro e W2 ⟨⟨v, rfl⟩, (⟨hi, hl, hk, hz⟩ | ⟨pre, x, r, hxs, c, hi, hl, hk⟩)⟩
      · refine ⟨none, _, by have := run_endLoop (P := P) hl (by rw [hrec]; simp); rw [hrec] at this; exact this, ?_⟩
        exact hdone _ _ (hI _ _ _ hi ((Below.refl _ _).putObj (by omega) _)) ((World.putObj_heap_other (by omega)).trans hk) (Nat.le_refl _)
      · refine ⟨some c, _, by have := run_endLoop (P := P) hl (by rw [hrec]; simp); rw [hrec] at this; exact this, ?_⟩
        exact hstop _ c pre x r _ hxs (hIx c _ _ _ hi ((Below.refl _ _).putObj (by omega) _)) ((World.putObj_heap_other (by omega)).trans hk) (Nat.le_refl _)
end Go.Proofs.Ytekamebpjjkifaa

/- A range over a function whose body may leave the loop: the iterator may lean on what the body keeps (D). -/
namespace Go.Proofs.Ytekamebpjjkifaa
open Go.RowKit
set_option linter.unusedVariables false
set_option linter.unusedSimpArgs false

/-- The iterator hands over xs, or a part of it where a round has said 'no more', whatever the body does within its word. -/
def SeqUntilD {α : Type} (F : Fence) (n : Nat) (P : Program) (gf : Nat) (lb : Array Value) (encs : α → Array Value) (X : Nat → Prop) (D : World → Prop) (xs : List α) (w : World) : Prop :=
  ∀ (l : Nat) (J Jx : List α → World → Prop) (W : World), Below w.heap.size w W → Deep W.heap.size J → Deep W.heap.size Jx → (∀ pre W1, J pre W1 → D W1) →
    (∀ pre x r W1, J pre W1 → xs = pre ++ x :: r → YieldAt F (n - 1) P l (encs x) W1 fun e W' => (e = .returned (.bool true) ∧ J (pre ++ [x]) W' ∧ KeepC X W1 W') ∨ (e = .returned (.bool false) ∧ Jx (pre ++ [x]) W')) →
    J [] W → CallsIn F n P gf (#[.func (.yield l) #[] #[]] ++ lb) W fun e W' => (∃ v, e = .returned v) ∧ (J xs W' ∨ ∃ pre x r, xs = pre ++ x :: r ∧ Jx (pre ++ [x]) W')

theorem wpIn_range_untilD {P : Program} {F : Fence} {n : Nat} {α : Type} {g : Operand} {ps : Array Tmp} {assign body : Code} {Q : Exit → Act → World → Prop} {a : Act} {w : World}
    (hro : F.round = none) (hdp : F.depth = none) {gf : Nat} {lb : Array Value} (hg : a.eval g = .func (.func gf) #[] lb) (hFg : F.fn gf) (eg : ∀ args w, (callFunc gf args).run P w = .ok (.enter gf args) w)
    {encs : α → Array Value} {X : Nat → Prop} {D : World → Prop} {xs : List α} {w0 : World} (hseq : SeqUntilD F (n - 1) P gf lb encs X D xs w0) (hb0 : Below w0.heap.size w0 w) (hps : ∀ x, (encs x).size = ps.size)
    (I : List α → World → Prop) (Ix : Code → List α → World → Prop) (hI : Deep w.heap.size I) (hIx : ∀ c, Deep w.heap.size (Ix c)) (hID : ∀ pre W, I pre W → D W) (h0 : I [] w)
    (hround : ∀ (l : Nat) (pre : List α) (x : α) (r : List α) (W : World), I pre W → xs = pre ++ x :: r → w.heap.size + 2 ≤ W.heap.size →
      assign.wpIn (F.inRound l) (n - 1 - 1) P (Exit.then (fun a₁ W1 => KeepC X W W1 ∧ KeepsOthers W W1 ∧
        ∀ W2, W1.grownBy W2 (some l) → (w.heap.size ≤ l ∧ l < w.heap.size + 2) → body.wpIn (F.inRound l) (n - 1 - 1) P (goesOnX X W2 (I (pre ++ [x])) (fun c => Ix c (pre ++ [x]))) a₁ W2) (fun _ _ _ => False))
        { tmps := (ps.zip (encs x)).foldl (fun t (p, v) => t.setIfInBounds p v) a.tmps, defers := [] } W)
    (hdone : ∀ (D : Nat) (W : World), I xs W → W.heap[D]? = some (.deferred (some [])) → w.heap.size ≤ D → Q .normal { a with defers := { target := .collected D, args := #[] } :: a.defers } W)
    (hstop : ∀ (D : Nat) (c : Code) (pre : List α) (x : α) (r : List α) (W : World), xs = pre ++ x :: r → Ix c (pre ++ [x]) W → W.heap[D]? = some (.deferred (some [])) → w.heap.size ≤ D → c.wpIn F n P Q { a with defers := { target := .collected D, args := #[] } :: a.defers } W) :
    (Code.rangeFunc g ps assign body).wpIn F n P Q a w := by
  refine wpIn_rangeFunc ?_
  intro fn hfn
  rw [hro]
  obtain ⟨rec, hrec⟩ : ∃ rec : LoopState → Option Code → Loop, rec = fun st pe => { state := st, pending := pe, fn, tmps := a.tmps, params := ps, assign, body, defers := w.heap.size } := ⟨_, rfl⟩
  obtain ⟨W1, hW1⟩ : ∃ W1, (w.alloc (.deferred (some []))).alloc (.loop (rec .ready none)) = W1 := ⟨_, rfl⟩
  have hsz : W1.heap.size = w.heap.size + 2 := by rw [← hW1]; simp
  have hL1 : W1.heap[w.heap.size + 1]? = some (.loop (rec .ready none)) := by
    rw [← hW1]; have := World.alloc_heap_new (w.alloc (.deferred (some []))) (.loop (rec .ready none)); rwa [World.size_alloc] at this
  have hK1 : W1.heap[w.heap.size]? = some (.deferred (some [])) := by
    rw [← hW1]; exact (Below.heap_alloc _ _ _ (by simp)).trans (World.alloc_heap_new w _)
  have hI1 : I [] W1 := by
    rw [← hW1]
    exact hI _ _ _ h0 (((Below.refl _ _).alloc (Nat.le_refl _) _).alloc (by simp) _)
  have hb1 : Below w0.heap.size w0 W1 := by
    rw [← hW1]; exact hb0.trans ((((Below.refl _ w).alloc (Nat.le_refl _) _).alloc (by simp) _).mono hb0.size)
  refine ⟨w.heap.size + 1, [{ target := .collected w.heap.size, args := #[] }], W1, { target := .fn (.func gf) lb, args := #[.func (.yield (w.heap.size + 1)) #[] #[]] }, W1, gf,
    #[.func (.yield (w.heap.size + 1)) #[] #[]] ++ lb, W1, ?_, ?_, ?_, ?_, (fun h => by rw [hdp] at h; cases h), ?_⟩
  · rw [← hW1, hrec]; exact run_enterLoop_outer _ _ _ _ _
  · simp only [resolve, hg]
    simp [go_sem]
  · intro f' hf'; simp [Target.leads] at hf'; subst hf'; exact hFg
  · simp [invoke, go_sem, eg]
  · refine (hseq (w.heap.size + 1)
      (fun pre W => I pre W ∧ W.heap[w.heap.size + 1]? = some (.loop (rec .ready none)) ∧ W.heap[w.heap.size]? = some (.deferred (some [])) ∧ w.heap.size + 2 ≤ W.heap.size)
      (fun pre W => ∃ c, Ix c pre W ∧ W.heap[w.heap.size + 1]? = some (.loop (rec .done (some c))) ∧ W.heap[w.heap.size]? = some (.deferred (some [])))
      W1 hb1 ?_ ?_ (fun pre W h => hID pre W h.1) ?_ ⟨hI1, hL1, hK1, by omega⟩).mono ?_
    · rintro s A B ⟨hs, hl, hk, hz⟩ hgr
      refine ⟨hI s A B hs (hgr.mono (by omega)), ?_, ?_, Nat.le_trans hz hgr.size⟩
      · rw [hgr.block _ (by omega)]; exact hl
      · rw [hgr.block _ (by omega)]; exact hk
    · rintro s A B ⟨c, hs, hl, hk⟩ hgr
      refine ⟨c, hIx c s A B hs (hgr.mono (by omega)), ?_, ?_⟩
      · rw [hgr.block _ (by omega)]; exact hl
      · rw [hgr.block _ (by omega)]; exact hk
    · rintro pre x r W ⟨hi, hl, hk, hz⟩ hxs
      have hy := run_yield (P := P) (args := encs x) hl (by rw [hrec]; exact hps x)
      rw [hrec] at hy
      refine ⟨fn, _, assign, body, hy, roundIn_of_wpIn hfn (wpIn_mono (hround (w.heap.size + 1) pre x r W hi hxs hz) ?_)⟩
      rintro e a1 W2 hp
      cases e with
      | normal =>
        obtain ⟨hkx, hlp, hbody⟩ := hp
        have hl2 := hlp.same _ _ hl rfl
        have hk2 := hlp.same _ _ hk rfl
        refine ⟨_, run_beginRound hl2 (by rw [hrec]), ?_⟩
        have hl3 : (W2.putObj (w.heap.size + 1) (.loop { rec .ready none with state := .busy })).heap[w.heap.size + 1]? = some (.loop { rec .ready none with state := .busy }) := World.putObj_heap_same (Array.getElem?_eq_some_iff.1 hl2).1
        have hk3 : (W2.putObj (w.heap.size + 1) (.loop { rec .ready none with state := .busy })).heap[w.heap.size]? = some (.deferred (some [])) := (World.putObj_heap_other (by omega)).trans hk2
        have kx3 := hkx.trans (KeepC.put X W2 _ _ (.loop { rec .ready none with state := .busy }) hl2 rfl)
        have fin : ∀ (jump : Option Code) (W3 : World), KeepsOthers (W2.putObj (w.heap.size + 1) (.loop { rec .ready none with state := .busy })) W3 →
            (Instr.endRound (w.heap.size + 1) jump).run P W3 = .ok (.bool jump.isNone) (W3.putObj (w.heap.size + 1) (.loop (rec (if jump.isNone then .ready else .done) jump))) ∧
            W3.heap[w.heap.size + 1]? = some (.loop { rec .ready none with state := .busy }) ∧
            (W3.putObj (w.heap.size + 1) (.loop (rec (if jump.isNone then .ready else .done) jump))).heap[w.heap.size + 1]? = some (.loop (rec (if jump.isNone then .ready else .done) jump)) ∧
            (W3.putObj (w.heap.size + 1) (.loop (rec (if jump.isNone then .ready else .done) jump))).heap[w.heap.size]? = some (.deferred (some [])) := fun jump W3 hk4 => by
          have hl4 := hk4.same _ _ hl3 rfl
          have := run_endRound (P := P) jump hl4
          rw [hrec] at this ⊢
          exact ⟨this, by rw [hrec] at hl4; exact hl4, World.putObj_heap_same (Array.getElem?_eq_some_iff.1 hl4).1, (World.putObj_heap_other (by omega)).trans (hk4.same _ _ hk3 rfl)⟩
        refine wpIn_mono (hbody _ (grownBy_putObj' W2 _ _) ⟨by omega, by omega⟩) ?_
        rintro e a2 W4 hp4
        cases e with
        | normal =>
          obtain ⟨kx4, lp4, hi4⟩ := hp4
          obtain ⟨hr, hl4, hl5, hk5⟩ := fin none W4 lp4
          refine ⟨_, _, hr, .inl ⟨rfl, ⟨hI _ _ _ hi4 ((Below.refl _ _).putObj (by omega) _), hl5, hk5, ?_⟩, (kx3.trans kx4).trans (KeepC.put X W4 _ _ _ hl4 rfl)⟩⟩
          have h1 := (kx3.trans kx4).size
          simp [World.putObj] at h1 ⊢; omega
        | ret =>
          obtain ⟨lp4, hi4⟩ := hp4
          obtain ⟨hr, hl4, hl5, hk5⟩ := fin (some .ret) W4 lp4
          exact ⟨_, _, hr, .inr ⟨rfl, .ret, hIx _ _ _ _ hi4 ((Below.refl _ _).putObj (by omega) _), hl5, hk5⟩⟩
        | exit id =>
          obtain ⟨lp4, hi4⟩ := hp4
          obtain ⟨hr, hl4, hl5, hk5⟩ := fin (some (.exit id)) W4 lp4
          exact ⟨_, _, hr, .inr ⟨rfl, .exit id, hIx _ _ _ _ hi4 ((Below.refl _ _).putObj (by omega) _), hl5, hk5⟩⟩
        | goto t =>
          obtain ⟨lp4, hi4⟩ := hp4
          obtain ⟨hr, hl4, hl5, hk5⟩ := fin (some (.goto t)) W4 lp4
          exact ⟨_, _, hr, .inr ⟨rfl, .goto t, hIx _ _ _ _ hi4 ((Below.refl _ _).putObj (by omega) _), hl5, hk5⟩⟩
        | _ => exact hp4.elim
      | _ => exact hp.elim
    · rintro e W2 ⟨⟨v, rfl⟩, (⟨hi, hl, hk, hz⟩ | ⟨pre, x, r, hxs, c, hi, hl, hk⟩)⟩
      · refine ⟨none, _, by have := run_endLoop (P := P) hl (by rw [hrec]; simp); rw [hrec] at this; exact this, ?_⟩
        exact hdone _ _ (hI _ _ _ hi ((Below.refl _ _).putObj (by omega) _)) ((World.putObj_heap_other (by omega)).trans hk) (Nat.le_refl _)
      · refine ⟨some c, _, by have := run_endLoop (P := P) hl (by rw [hrec]; simp); rw [hrec] at this; exact this, ?_⟩
        exact hstop _ c pre x r _ hxs (hIx c _ _ _ hi ((Below.refl _ _).putObj (by omega) _)) ((World.putObj_heap_other (by omega)).trans hk) (Nat.le_refl _)
end Go.Proofs.Ytekamebpjjkifaa
