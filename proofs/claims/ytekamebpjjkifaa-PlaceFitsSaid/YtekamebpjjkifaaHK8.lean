/- Texts that belong together, joined: what each one holds is told ahead of it. -/
import Derived.Test.YtekamebpjjkifaaHK7
import Derived.Test.YtekamebpjjkifaaHK2
import Derived.Deep.MidRow
import Derived.Deep.WholeRow
import Derived.Test.YtekamebpjjkifaaHK1
import Derived.DeepKeys5
import Derived.Maps.Views
import Derived.Maps.Own
import Derived.Maps.OwnSet
/- A guard of 18 cells, loaded and stored as a whole. -/
namespace Go.Proofs.Ytekamebpjjkifaa
open Go.RowKit
set_option linter.unusedSimpArgs false
set_option linter.unusedVariables false

/-- A guard's zero value. -/
def guardZ : Array Value := #[.int .u8 0, .int .u8 0, .int .u8 0, .int .u8 0, .int .i32 0, .int .i64 0, .slice none 0 0, .int .i64 0, .int .u8 0, .int .i64 0, .slice none 0 0, .int .u8 0, .int .u8 0, .int .u8 0, .int .i32 0, .int .i64 0, .slice none 0 0, .slice none 0 0]
theorem guard_size : (Try.prog.info? 103).map (·.size) = some 18 := by kernel_rfl
theorem GAt.range {w : World} {b o : Nat} {g : KG} (h : GAt w b o g) : w.rangeAt b o g.flat.toList := by
  intro j v hj
  obtain ⟨c0, c1, c2, c3, c4, c5, c6, c7, c8, c9, c10, c11, c12, c13, c14, c15, c16, c17⟩ := h
  match j, hj with
  | 0, hj => cases hj; exact c0
  | 1, hj => cases hj; exact c1
  | 2, hj => cases hj; exact c2
  | 3, hj => cases hj; exact c3
  | 4, hj => cases hj; exact c4
  | 5, hj => cases hj; exact c5
  | 6, hj => cases hj; exact c6
  | 7, hj => cases hj; exact c7
  | 8, hj => cases hj; exact c8
  | 9, hj => cases hj; exact c9
  | 10, hj => cases hj; exact c10
  | 11, hj => cases hj; exact c11
  | 12, hj => cases hj; exact c12
  | 13, hj => cases hj; exact c13
  | 14, hj => cases hj; exact c14
  | 15, hj => cases hj; exact c15
  | 16, hj => cases hj; exact c16
  | 17, hj => cases hj; exact c17
  | n + 18, hj => simp [KG.flat] at hj
theorem wpList_guard_load {ops : Array Oper} {rest : List Oper} {op : Oper} {a : Act} {w : World} {Q : Exit → Act → World → Prop} (hgd : op.guard = none) (x : Operand) (ho : op.op = .load 103 x) {b o : Nat} (hx : a.eval x = .pointer (some ⟨b, o, none⟩)) {g : KG} (hG : GAt w b o g)
    (h : wpList Try.prog ops Q rest (a.put op.dst (.agg g.flat)) w) : wpList Try.prog ops Q (op :: rest) a w :=
  wpList_load_mid hgd _ x ho b o hx g.flat.toList _ hG.range Try.underlying103 rfl guard_size h
theorem wp_guard_store {op : Oper} {a : Act} {w : World} {K : Act → World → Prop} {Q : Exit → Act → World → Prop} (x y : Operand) (ho : op.op = .store 103 x y) {g : KG} (hx : a.eval x = .pointer (some ⟨w.heap.size, 0, none⟩)) (hy : a.eval y = .agg g.flat)
    (h : K (a.put op.dst undef) (w.alloc (.cells g.flat 103))) : op.wp Try.prog a (w.alloc (.cells guardZ 103)) K Q := by
  unfold Oper.wp execOp
  simp only [ho, hx, hy, Instr.storeAt, Instr.sureAddr, Sem.run_bind, Sem.run_pure, Result.andThen_ok, run_storeVar_new (P := Try.prog) w 103 guardZ g.flat guard_size rfl (by simp [KG.flat, Value.oneCell'])]
  exact h
theorem wpList_guard_store {ops : Array Oper} {rest : List Oper} {op : Oper} {a : Act} {w : World} {Q : Exit → Act → World → Prop} (hgd : op.guard = none) (x y : Operand) (ho : op.op = .store 103 x y) {g : KG} (hx : a.eval x = .pointer (some ⟨w.heap.size, 0, none⟩)) (hy : a.eval y = .agg g.flat)
    (h : wpList Try.prog ops Q rest (a.put op.dst undef) (w.alloc (.cells g.flat 103))) : wpList Try.prog ops Q (op :: rest) a (w.alloc (.cells guardZ 103)) :=
  wpList_plain hgd fun _ hK => wp_guard_store x y ho hx hy (hK _ _ h)
end Go.Proofs.Ytekamebpjjkifaa

/- Maps with keys of a struct's type: what a lookup answers. -/
namespace Go.Proofs.Ytekamebpjjkifaa
open Go.RowKit Go.Maps Go.WideMaps
set_option linter.unusedVariables false

section
variable {P : Program} {k e t : TypeId} {α : Type} {enc : α → Value} {ok : α → Prop} {key : α → Lit}
/-- Keys of a type, and what they read as. -/
structure KeyEnc (P : Program) (k : TypeId) {α : Type} (enc : α → Value) (ok : α → Prop) (key : α → Lit) : Prop where
  law : Keyed P k
  at_ : ∀ x, ok x → keyOf P k (enc x) = some (key x)
  lit : ∀ x, WideAt.IsKeyLit (key x)
  inj : ∀ x y, ok x → ok y → key x = key y → x = y
/-- The block b is a map of at most n entries whose lookups answer f (its elements are of a plain type). -/
def MapF (P : Program) (k e : TypeId) {α : Type} (ok : α → Prop) (key : α → Lit) (w : World) (b n : Nat) (f : α → Option (DataW Unit)) : Prop :=
  ∃ D, w.ownsMap P k (plainElem (H := Unit) P e) b n D ∧ IsMap D ∧ ∀ x, ok x → has D (key x) = (f x).isSome ∧ ∀ z, D.atKey (key x) z = (f x).getD z
theorem MapF.made (w : World) : MapF P k e ok key (w.alloc (.map #[] 0)) w.heap.size 0 (fun _ : α => none) :=
  ⟨.map [], World.ownsMap_made w P k _, ⟨_, rfl⟩, fun x _ => ⟨rfl, fun z => rfl⟩⟩
theorem MapF.kept {w w' : World} {b n : Nat} {f : α → Option (DataW Unit)} {row : Option Nat} (h : MapF P k e ok key w b n f) (hg : w.grownBy w' row) (hne : some b ≠ row) : MapF P k e ok key w' b n f := by
  obtain ⟨D, h1, h2, h3⟩ := h
  exact ⟨D, h1.kept hg hne, h2, h3⟩
theorem MapF.call {w w' : World} {b n : Nat} {f : α → Option (DataW Unit)} (h : MapF P k e ok key w b n f) (hb : Below w.heap.size w w') : MapF P k e ok key w' b n f :=
  h.kept (row := none) ⟨hb.os, hb.tape, hb.output, hb.size, fun k hk _ => hb.block k hk⟩ (by simp)
theorem MapF.lt {w : World} {b n : Nat} {f : α → Option (DataW Unit)} (h : MapF P k e ok key w b n f) : b < w.heap.size := by
  obtain ⟨D, h1, h2, h3⟩ := h
  exact h1.lt
theorem MapF.deep {w w' : World} {b n : Nat} {f : α → Option (DataW Unit)} (h : MapF P k e ok key w b n f) (hh : w'.heap[b]? = w.heap[b]?) : MapF P k e ok key w' b n f := by
  obtain ⟨D, ⟨es, clock, h1, h4, h5, h6⟩, h2, h3⟩ := h
  exact ⟨D, ⟨es, clock, by rw [hh]; exact h1, h4, h5, h6⟩, h2, h3⟩
/-- A lookup with 'ok'. -/
theorem MapF.look_ok {w : World} {b n : Nat} {f : α → Option (DataW Unit)} (h : MapF P k e ok key w b n f) (K : KeyEnc P k enc ok key) (ht : P.underlying t = some (.map k e)) {z : Value} (hz : (zeroValue e).run P w = .ok z w) {zd : DataW Unit} {zp : List MemPlace} (hzd : plainElem P e z = some (zd, zp)) {x : α} (hx : ok x) :
    ∃ v ps, (Instr.lookup t (.map (some b)) (enc x) true).run P w = .ok (.tuple #[v, .bool (f x).isSome]) w ∧ plainElem P e v = some ((f x).getD zd, ps) := by
  obtain ⟨D, h1, h2, h3⟩ := h
  obtain ⟨v, ps, hrun, hv⟩ := h1.look_ok K.law ht hz hzd (K.at_ x hx)
  rw [(h3 x hx).1] at hrun
  rw [(h3 x hx).2] at hv
  exact ⟨v, ps, hrun, hv⟩
/-- A lookup without 'ok'. -/
theorem MapF.look {w : World} {b n : Nat} {f : α → Option (DataW Unit)} (h : MapF P k e ok key w b n f) (K : KeyEnc P k enc ok key) (ht : P.underlying t = some (.map k e)) {z : Value} (hz : (zeroValue e).run P w = .ok z w) {zd : DataW Unit} {zp : List MemPlace} (hzd : plainElem P e z = some (zd, zp)) {x : α} (hx : ok x) :
    ∃ v ps, (Instr.lookup t (.map (some b)) (enc x) false).run P w = .ok v w ∧ plainElem P e v = some ((f x).getD zd, ps) := by
  obtain ⟨D, h1, h2, h3⟩ := h
  obtain ⟨v, ps, hrun, hv⟩ := h1.lookup K.law ht hz hzd (K.at_ x hx)
  rw [(h3 x hx).2] at hv
  exact ⟨v, ps, hrun, hv⟩
open Classical in
/-- A store. -/
theorem MapF.update {w : World} {b n : Nat} {f : α → Option (DataW Unit)} (h : MapF P k e ok key w b n f) (K : KeyEnc P k enc ok key) (ht : P.underlying t = some (.map k e)) (hn : n < maxLen) {val : Value} {d : DataW Unit} {ps : List MemPlace} (hv : plainElem P e val = some (d, ps)) {x : α} (hx : ok x) :
    ∃ w', (Instr.mapUpdate t (.map (some b)) (enc x) val).run P w = .ok () w' ∧ MapF P k e ok key w' b (n + 1) (fun y => if y = x then some d else f y) ∧ w.grownBy w' (some b) := by
  obtain ⟨D, h1, h2, h3⟩ := h
  obtain ⟨w', hrun, h4, h5⟩ := h1.update K.law ht hn (K.at_ x hx) hv
  refine ⟨w', hrun, ⟨_, h4, h2.put _ _, fun y hy => ?_⟩, h5⟩
  by_cases hyx : y = x
  · subst hyx
    simp only [if_true]
    exact ⟨has_put_same h2 (K.lit y) d, fun z => atKey_put_same h2 (K.lit y) d z⟩
  · simp only [if_neg hyx]
    have hne : key y ≠ key x := fun e => hyx (K.inj y x hy hx e)
    exact ⟨(has_put_other hne d).trans (h3 y hy).1, fun z => (atKey_put_other hne d z).trans ((h3 y hy).2 z)⟩
end
set_option maxRecDepth 100000 in
theorem prog_laid : laidOutB Try.prog = true := by kernel_rfl
/-- A struct's type as a key. -/
theorem keyEnc_of {P : Program} (hl : laidOutB P = true) {k : TypeId} {α : Type} {enc : α → Value} {ok : α → Prop} {key : α → Lit} {m : Nat} (hm : m + 1 ≤ 10000) (hrow : k < P.types.size) (hk : P.keyTypeAt m k = true) (hwide : (match P.underlying k with | some (.array _ _) | some (.struct _) => true | _ => false) = true)
    (hkey : ∀ x, ok x → keyOf P k (enc x) = some (key x)) (hlit : ∀ x, WideAt.IsKeyLit (key x)) (hinj : ∀ x y, ok x → ok y → enc x = enc y → x = y) : KeyEnc P k enc ok key where
  law := Keyed.of_law (deep_law_laid hl hm hrow hk hwide)
  at_ := hkey
  lit := hlit
  inj := fun x y hx hy e => by
    have hti : P.tiled m k = true := by
      refine tiled_of_laidOut hl m k ?_ hk
      simp only [isVar, Bool.and_eq_true, decide_eq_true_eq]
      refine ⟨hrow, ?_⟩
      split at hwide <;> simp_all [kindOk]
    exact hinj x y hx hy (keyOf_inj_deep hti hwide (hkey x hx) (by rw [e]; exact hkey y hy))
end Go.Proofs.Ytekamebpjjkifaa

/- The keys of the maps of layer 40: ends of channels, ports. -/
namespace Go.Proofs.Ytekamebpjjkifaa
open Go.RowKit Go.Maps Go.WideMaps
set_option linter.unusedSimpArgs false
set_option linter.unusedVariables false

/-- An end as a value. -/
def endV (x : Int × Bool) : Value := .agg #[.int .i64 x.1, .bool x.2]
def endKey (x : Int × Bool) : Lit := .string (keyBytes [.int .i64 x.1, .bool x.2])
theorem i64_lit {a : Int} (h : i64ok a) : (Lit.int .i64 a).wf = true := by
  unfold i64ok at h
  have h1 : IntKind.min .i64 = -9223372036854775808 := by decide
  have h2 : IntKind.max .i64 = 9223372036854775807 := by decide
  simp only [Lit.wf, h1, h2, Bool.and_eq_true, decide_eq_true_eq]
  exact h
theorem keyLits_struct {P : Program} {d : Nat} {t : TypeId} {fs : Array Field} {cs : List Value} (h : P.underlying t = some (.struct fs)) : P.keyLits (d + 1) t cs = if cs.length = P.cellsOf t ∧ fs.all (·.name != "_") = true then (fs.toList.mapM fun f => P.keyLits d f.type ((cs.drop f.offset).take (P.cellsOf f.type))).map List.flatten else none := by
  conv => lhs; unfold Program.keyLits
  rw [h]
theorem keyLits_int {P : Program} {d : Nat} {t : TypeId} {q : IntKind} {a : Int} (h : P.underlying t = some (.int q)) (hw : (Lit.int q a).wf = true) : P.keyLits (d + 1) t [.int q a] = some [.int q a] := by
  unfold Program.keyLits
  rw [h]
  simp [hw]
theorem keyLits_bool {P : Program} {d : Nat} {t : TypeId} {a : Bool} (h : P.underlying t = some .bool) : P.keyLits (d + 1) t [.bool a] = some [.bool a] := by
  unfold Program.keyLits
  rw [h]
theorem end_size : Try.prog.cellsOf 71 = 2 := by kernel_rfl
theorem int_size : Try.prog.cellsOf 3 = 1 := by kernel_rfl
theorem bool_size : Try.prog.cellsOf 4 = 1 := by kernel_rfl
theorem types_some : ∃ d, Try.prog.types.size + 1 = d + 3 := by
  have h : decide (2 ≤ Try.prog.types.size) = true := by kernel_rfl
  have h2 := of_decide_eq_true h
  exact ⟨Try.prog.types.size - 2, by omega⟩
theorem end_lits (d : Nat) (x : Int × Bool) (h : i64ok x.1) : Try.prog.keyLits (d + 3) 71 [.int .i64 x.1, .bool x.2] = some [.int .i64 x.1, .bool x.2] := by
  have h2 := i64_lit h
  rw [keyLits_struct Try.underlying71, end_size]
  simp [int_size, bool_size, keyLits_int Try.underlying3 h2, keyLits_bool Try.underlying4]
theorem end_keyOf (x : Int × Bool) (h : i64ok x.1) : keyOf Try.prog 71 (endV x) = some (endKey x) := by
  obtain ⟨d, hd⟩ := types_some
  have h1 : Try.prog.keyType 71 = true := by kernel_rfl
  have h2 : (endV x).formed Try.prog 71 = true := by simp [endV, Value.formed, Try.underlying71, end_size]
  have h3 : (endV x).cells.toList = [.int .i64 x.1, .bool x.2] := rfl
  unfold keyOf
  simp only [Try.underlying71]
  rw [h1, h2, hd, h3, end_lits d x h]
  rfl
theorem endEnc : KeyEnc Try.prog 71 endV (fun x => i64ok x.1) endKey :=
  keyEnc_of prog_laid (m := 3) (by omega) (of_decide_eq_true (by kernel_rfl)) (by kernel_rfl) (by kernel_rfl) end_keyOf (fun _ => trivial) (fun x y _ _ e => by
    obtain ⟨a, b⟩ := x
    obtain ⟨c, d⟩ := y
    simp [endV] at e
    rw [e.1, e.2])
/-- A port as a value. -/
def portV (x : Int × Int) : Value := .agg #[.int .i64 x.1, .int .i64 x.2]
def portKey (x : Int × Int) : Lit := .string (keyBytes [.int .i64 x.1, .int .i64 x.2])
theorem port_size : Try.prog.cellsOf 38 = 2 := by kernel_rfl
theorem port_lits (d : Nat) (x : Int × Int) (h : i64ok x.1 ∧ i64ok x.2) : Try.prog.keyLits (d + 3) 38 [.int .i64 x.1, .int .i64 x.2] = some [.int .i64 x.1, .int .i64 x.2] := by
  have h2 := i64_lit h.1
  have h3 := i64_lit h.2
  rw [keyLits_struct Try.underlying38, port_size]
  simp [int_size, keyLits_int Try.underlying3 h2, keyLits_int Try.underlying3 h3]
theorem port_keyOf (x : Int × Int) (h : i64ok x.1 ∧ i64ok x.2) : keyOf Try.prog 38 (portV x) = some (portKey x) := by
  obtain ⟨d, hd⟩ := types_some
  have h1 : Try.prog.keyType 38 = true := by kernel_rfl
  have h2 : (portV x).formed Try.prog 38 = true := by simp [portV, Value.formed, Try.underlying38, port_size]
  have h3 : (portV x).cells.toList = [.int .i64 x.1, .int .i64 x.2] := rfl
  unfold keyOf
  simp only [Try.underlying38]
  rw [h1, h2, hd, h3, port_lits d x h]
  rfl
theorem portEnc : KeyEnc Try.prog 38 portV (fun x => i64ok x.1 ∧ i64ok x.2) portKey :=
  keyEnc_of prog_laid (m := 3) (by omega) (of_decide_eq_true (by kernel_rfl)) (by kernel_rfl) (by kernel_rfl) port_keyOf (fun _ => trivial) (fun x y _ _ e => by
    obtain ⟨a, b⟩ := x
    obtain ⟨c, d⟩ := y
    simp [portV] at e
    rw [e.1, e.2])
end Go.Proofs.Ytekamebpjjkifaa
