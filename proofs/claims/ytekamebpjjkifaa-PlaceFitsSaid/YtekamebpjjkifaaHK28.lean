/- Texts that belong together, joined: what each one holds is told ahead of it. -/
import Derived.Test.YtekamebpjjkifaaHK6
import Derived.MapKept
import Derived.Test.YtekamebpjjkifaaHK26
/- The check of a kind, walked in the program: a map's literal, and its lookup. -/
namespace Go.Proofs.Ytekamebpjjkifaa
open Go.RowKit
set_option linter.unusedSimpArgs false
set_option linter.unusedVariables false

def kEnts : Nat → List (Nat × Value) → List MapEntry
  | _, [] => []
  | i, p :: l => { key := .int .u8 (p.1 : Nat), val := p.2, born := i } :: kEnts (i + 1) l
theorem kEnts_append : ∀ (i : Nat) (a b : List (Nat × Value)), kEnts i (a ++ b) = kEnts i a ++ kEnts (i + a.length) b
  | i, [], b => by simp [kEnts]
  | i, p :: a, b => by
    rw [List.cons_append, kEnts, kEnts, kEnts_append (i + 1) a b, List.cons_append, List.length_cons, show i + 1 + a.length = i + (a.length + 1) by omega]
def kFind (k : Nat) : List (Nat × Value) → Nat → Option (Nat × Value)
  | [], _ => none
  | p :: l, i => if k = p.1 then some (i, p.2) else kFind k l (i + 1)
theorem findNow_k (k : Nat) : ∀ (l : List (Nat × Value)) (i j : Nat), Instr.findNow (.int .u8) (.int .u8 (k : Nat)) (kEnts i l) j = some (kFind k l j)
  | [], i, j => rfl
  | p :: l, i, j => by
    rw [kEnts, Instr.findNow, kFind]
    by_cases h : k = p.1
    · have e : Instr.sameNow (.int .u8) (.int .u8 (k : Nat)) (.int .u8 (p.1 : Nat)) = some true := by simp [Instr.sameNow, h]
      simp only [e, if_pos h]
    · have e : Instr.sameNow (.int .u8) (.int .u8 (k : Nat)) (.int .u8 (p.1 : Nat)) = some false := by simp [Instr.sameNow]; omega
      simp only [e, if_neg h]
      exact findNow_k k l (i + 1) (j + 1)
theorem kFind_none {k : Nat} : ∀ {l : List (Nat × Value)} {j : Nat}, (∀ p ∈ l, p.1 ≠ k) → kFind k l j = none
  | [], _, _ => rfl
  | p :: l, j, h => by
    rw [kFind, if_neg (fun e => h p (by simp) e.symm)]
    exact kFind_none fun q hq => h q (by simp [hq])
/-- A map's object, by its entries. -/
def MapK (W : World) (r : Nat) (l : List (Nat × Value)) : Prop := W.heap[r]? = some (.map (kEnts 0 l).toArray l.length)
theorem kmap_und : Try.prog.underlying 135 = some (.map 24 112) := Try.underlying135
theorem run_insK {W : World} {r k : Nat} {l : List (Nat × Value)} (h : MapK W r l) (hn : ∀ p ∈ l, p.1 ≠ k) (v : Value) :
    ∃ W', (Instr.mapUpdate 135 (.map (some r)) (.int .u8 (k : Nat)) v).run Try.prog W = .ok () W' ∧ MapK W' r (l ++ [(k, v)]) ∧ ∀ B w0, B ≤ r → Below B w0 W → Below B w0 W' := by
  have hf : Instr.findNow (.int .u8) (.int .u8 (k : Nat)) (kEnts 0 l).toArray.toList 0 = some none := by
    rw [List.toList_toArray, findNow_k, kFind_none hn]
  have hlt : r < W.heap.size := (Array.getElem?_eq_some_iff.1 h).1
  refine ⟨{ W with heap := W.heap.setIfInBounds r (.map ((kEnts 0 l).toArray.push { key := .int .u8 (k : Nat), val := v, born := l.length }) (l.length + 1)) }, ?_, ?_, ?_⟩
  · have h1 := MapKept.run_getObj_map (P := Try.prog) h
    have h2 := MapKept.run_checkKey (P := Try.prog) (w := W) (kt := 24) Try.underlying24 (k := .int .u8 (k : Nat)) (by rfl) false 9999
    have h3 := MapKept.run_findKey (P := Try.prog) (w := W) (kt := 24) Try.underlying24 hf
    have h4 := fun o => MapKept.run_setObj_map (P := Try.prog) o h
    simp [Instr.mapUpdate, run_underlying kmap_und, h1, h2, h3, h4, Result.andThen]
  · show (W.heap.setIfInBounds r _)[r]? = _
    rw [Array.getElem?_setIfInBounds_self_of_lt hlt]
    congr 2
    · rw [kEnts_append, Nat.zero_add]
      simp [kEnts]
    · simp
  · intro B w0 hB hb
    refine ⟨hb.os, hb.tape, hb.output, by simpa using hb.size, fun i hi => ?_⟩
    show (W.heap.setIfInBounds r _)[i]? = _
    rw [Array.getElem?_setIfInBounds_ne (by omega)]
    exact hb.block i hi
theorem run_lookK {W : World} {r k : Nat} {l : List (Nat × Value)} (h : MapK W r l) {v : Value} (hv : (match kFind k l 0 with
      | some (_, v) => v
      | none => Value.nilFunc) = v) :
    (Instr.lookup 135 (.map (some r)) (.int .u8 (k : Nat)) false).run Try.prog W = .ok v W := by
  have hf : Instr.findNow (.int .u8) (.int .u8 (k : Nat)) (kEnts 0 l).toArray.toList 0 = some (kFind k l 0) := by
    rw [List.toList_toArray, findNow_k]
  have h1 := MapKept.run_getObj_map (P := Try.prog) h
  have h2 : (Instr.checkKey (kEnts 0 l).isEmpty 10000 24 (.int .u8 (k : Nat))).run Try.prog W = .ok () W := MapKept.run_checkKey (P := Try.prog) (w := W) (kt := 24) Try.underlying24 (k := .int .u8 (k : Nat)) (by rfl) (kEnts 0 l).isEmpty 9999
  have h3 := MapKept.run_findKey (P := Try.prog) (w := W) (kt := 24) Try.underlying24 hf
  have hz : (zeroValue 112).run Try.prog W = .ok Value.nilFunc W := by kernel_rfl
  rw [List.toList_toArray] at h3
  subst hv
  cases hk : kFind k l 0 with
  | none =>
    rw [hk] at h3
    simp [Instr.lookup, run_underlying kmap_und, h1, h2, h3, hz, Result.andThen]
  | some q =>
    obtain ⟨i, v⟩ := q
    rw [hk] at h3
    simp [Instr.lookup, run_underlying kmap_und, h1, h2, h3, Result.andThen]
/-- The check of a kind: a method of the checker; none. -/
def checkV (bc : Nat) (k : Nat) : Value := match k with
  | 1 => (.func (.func 55) #[.pointer (some ⟨bc, 0, none⟩)] #[])
  | 2 => (.func (.func 55) #[.pointer (some ⟨bc, 0, none⟩)] #[])
  | 3 => (.func (.func 56) #[.pointer (some ⟨bc, 0, none⟩)] #[])
  | 4 => (.func (.func 57) #[.pointer (some ⟨bc, 0, none⟩)] #[])
  | 5 => (.func (.func 58) #[.pointer (some ⟨bc, 0, none⟩)] #[])
  | 6 => (.func (.func 59) #[.pointer (some ⟨bc, 0, none⟩)] #[])
  | 7 => (.func (.func 60) #[.pointer (some ⟨bc, 0, none⟩)] #[])
  | 8 => (.func (.func 61) #[.pointer (some ⟨bc, 0, none⟩)] #[])
  | 9 => (.func (.func 62) #[.pointer (some ⟨bc, 0, none⟩)] #[])
  | 10 => (.func (.func 63) #[.pointer (some ⟨bc, 0, none⟩)] #[])
  | 11 => (.func (.func 64) #[.pointer (some ⟨bc, 0, none⟩)] #[])
  | 12 => (.func (.func 65) #[.pointer (some ⟨bc, 0, none⟩)] #[])
  | 13 => (.func (.func 66) #[.pointer (some ⟨bc, 0, none⟩)] #[])
  | 14 => (.func (.func 65) #[.pointer (some ⟨bc, 0, none⟩)] #[])
  | 15 => (.func (.func 65) #[.pointer (some ⟨bc, 0, none⟩)] #[])
  | _ => Value.nilFunc
def checkL (bc : Nat) : List (Nat × Value) := [(1, (.func (.func 55) #[.pointer (some ⟨bc, 0, none⟩)] #[])), (2, (.func (.func 55) #[.pointer (some ⟨bc, 0, none⟩)] #[])), (3, (.func (.func 56) #[.pointer (some ⟨bc, 0, none⟩)] #[])), (4, (.func (.func 57) #[.pointer (some ⟨bc, 0, none⟩)] #[])), (5, (.func (.func 58) #[.pointer (some ⟨bc, 0, none⟩)] #[])), (6, (.func (.func 59) #[.pointer (some ⟨bc, 0, none⟩)] #[])), (7, (.func (.func 60) #[.pointer (some ⟨bc, 0, none⟩)] #[])), (8, (.func (.func 61) #[.pointer (some ⟨bc, 0, none⟩)] #[])), (9, (.func (.func 62) #[.pointer (some ⟨bc, 0, none⟩)] #[])), (10, (.func (.func 63) #[.pointer (some ⟨bc, 0, none⟩)] #[])), (11, (.func (.func 64) #[.pointer (some ⟨bc, 0, none⟩)] #[])), (12, (.func (.func 65) #[.pointer (some ⟨bc, 0, none⟩)] #[])), (13, (.func (.func 66) #[.pointer (some ⟨bc, 0, none⟩)] #[])), (14, (.func (.func 65) #[.pointer (some ⟨bc, 0, none⟩)] #[])), (15, (.func (.func 65) #[.pointer (some ⟨bc, 0, none⟩)] #[]))]
theorem checkL_find (bc k : Nat) : (match kFind k (checkL bc) 0 with
    | some (_, v) => v
    | none => Value.nilFunc) = checkV bc k := by
  match k with
  | 0 => rfl
  | 1 => rfl
  | 2 => rfl
  | 3 => rfl
  | 4 => rfl
  | 5 => rfl
  | 6 => rfl
  | 7 => rfl
  | 8 => rfl
  | 9 => rfl
  | 10 => rfl
  | 11 => rfl
  | 12 => rfl
  | 13 => rfl
  | 14 => rfl
  | 15 => rfl
  | n + 16 =>
    have h : kFind (n + 16) (checkL bc) 0 = none := kFind_none (by simp [checkL])
    rw [h]
    rfl
set_option maxRecDepth 100000 in
set_option maxHeartbeats 4000000 in
theorem k_check (bc kd : Nat) (w : World) : Calls Try.prog 45 #[.pointer (some ⟨bc, 0, none⟩), .int .u8 kd] w (RetV (checkV bc kd) w) := by
  obtain ⟨W0, hW0⟩ : ∃ W, w.alloc (.map #[] 0) = W := ⟨_, rfl⟩
  have hmk : (Instr.makeMap 135 none).run Try.prog w = .ok (.map (some w.heap.size)) W0 := by rw [← hW0]; rfl
  have M0 : MapK W0 w.heap.size [] := by rw [← hW0]; exact heap_alloc_new w _
  have B0 : Below w.heap.size w W0 := by rw [← hW0]; exact (Below.refl _ _).alloc (Nat.le_refl _) _
  obtain ⟨W1, h1, M1, B1⟩ := run_insK (k := 1) M0 (by simp) (.func (.func 55) #[.pointer (some ⟨bc, 0, none⟩)] #[])
  replace B1 := B1 _ _ (Nat.le_refl _) B0
  replace h1 : (Instr.mapUpdate 135 (.map (some w.heap.size)) (.int .u8 1) (.func (.func 55) #[.pointer (some ⟨bc, 0, none⟩)] #[])).run Try.prog W0 = .ok () W1 := h1
  obtain ⟨W2, h2, M2, B2⟩ := run_insK (k := 2) M1 (by simp) (.func (.func 55) #[.pointer (some ⟨bc, 0, none⟩)] #[])
  replace B2 := B2 _ _ (Nat.le_refl _) B1
  replace h2 : (Instr.mapUpdate 135 (.map (some w.heap.size)) (.int .u8 2) (.func (.func 55) #[.pointer (some ⟨bc, 0, none⟩)] #[])).run Try.prog W1 = .ok () W2 := h2
  obtain ⟨W3, h3, M3, B3⟩ := run_insK (k := 3) M2 (by simp) (.func (.func 56) #[.pointer (some ⟨bc, 0, none⟩)] #[])
  replace B3 := B3 _ _ (Nat.le_refl _) B2
  replace h3 : (Instr.mapUpdate 135 (.map (some w.heap.size)) (.int .u8 3) (.func (.func 56) #[.pointer (some ⟨bc, 0, none⟩)] #[])).run Try.prog W2 = .ok () W3 := h3
  obtain ⟨W4, h4, M4, B4⟩ := run_insK (k := 4) M3 (by simp) (.func (.func 57) #[.pointer (some ⟨bc, 0, none⟩)] #[])
  replace B4 := B4 _ _ (Nat.le_refl _) B3
  replace h4 : (Instr.mapUpdate 135 (.map (some w.heap.size)) (.int .u8 4) (.func (.func 57) #[.pointer (some ⟨bc, 0, none⟩)] #[])).run Try.prog W3 = .ok () W4 := h4
  obtain ⟨W5, h5, M5, B5⟩ := run_insK (k := 5) M4 (by simp) (.func (.func 58) #[.pointer (some ⟨bc, 0, none⟩)] #[])
  replace B5 := B5 _ _ (Nat.le_refl _) B4
  replace h5 : (Instr.mapUpdate 135 (.map (some w.heap.size)) (.int .u8 5) (.func (.func 58) #[.pointer (some ⟨bc, 0, none⟩)] #[])).run Try.prog W4 = .ok () W5 := h5
  obtain ⟨W6, h6, M6, B6⟩ := run_insK (k := 6) M5 (by simp) (.func (.func 59) #[.pointer (some ⟨bc, 0, none⟩)] #[])
  replace B6 := B6 _ _ (Nat.le_refl _) B5
  replace h6 : (Instr.mapUpdate 135 (.map (some w.heap.size)) (.int .u8 6) (.func (.func 59) #[.pointer (some ⟨bc, 0, none⟩)] #[])).run Try.prog W5 = .ok () W6 := h6
  obtain ⟨W7, h7, M7, B7⟩ := run_insK (k := 7) M6 (by simp) (.func (.func 60) #[.pointer (some ⟨bc, 0, none⟩)] #[])
  replace B7 := B7 _ _ (Nat.le_refl _) B6
  replace h7 : (Instr.mapUpdate 135 (.map (some w.heap.size)) (.int .u8 7) (.func (.func 60) #[.pointer (some ⟨bc, 0, none⟩)] #[])).run Try.prog W6 = .ok () W7 := h7
  obtain ⟨W8, h8, M8, B8⟩ := run_insK (k := 8) M7 (by simp) (.func (.func 61) #[.pointer (some ⟨bc, 0, none⟩)] #[])
  replace B8 := B8 _ _ (Nat.le_refl _) B7
  replace h8 : (Instr.mapUpdate 135 (.map (some w.heap.size)) (.int .u8 8) (.func (.func 61) #[.pointer (some ⟨bc, 0, none⟩)] #[])).run Try.prog W7 = .ok () W8 := h8
  obtain ⟨W9, h9, M9, B9⟩ := run_insK (k := 9) M8 (by simp) (.func (.func 62) #[.pointer (some ⟨bc, 0, none⟩)] #[])
  replace B9 := B9 _ _ (Nat.le_refl _) B8
  replace h9 : (Instr.mapUpdate 135 (.map (some w.heap.size)) (.int .u8 9) (.func (.func 62) #[.pointer (some ⟨bc, 0, none⟩)] #[])).run Try.prog W8 = .ok () W9 := h9
  obtain ⟨W10, h10, M10, B10⟩ := run_insK (k := 10) M9 (by simp) (.func (.func 63) #[.pointer (some ⟨bc, 0, none⟩)] #[])
  replace B10 := B10 _ _ (Nat.le_refl _) B9
  replace h10 : (Instr.mapUpdate 135 (.map (some w.heap.size)) (.int .u8 10) (.func (.func 63) #[.pointer (some ⟨bc, 0, none⟩)] #[])).run Try.prog W9 = .ok () W10 := h10
  obtain ⟨W11, h11, M11, B11⟩ := run_insK (k := 11) M10 (by simp) (.func (.func 64) #[.pointer (some ⟨bc, 0, none⟩)] #[])
  replace B11 := B11 _ _ (Nat.le_refl _) B10
  replace h11 : (Instr.mapUpdate 135 (.map (some w.heap.size)) (.int .u8 11) (.func (.func 64) #[.pointer (some ⟨bc, 0, none⟩)] #[])).run Try.prog W10 = .ok () W11 := h11
  obtain ⟨W12, h12, M12, B12⟩ := run_insK (k := 12) M11 (by simp) (.func (.func 65) #[.pointer (some ⟨bc, 0, none⟩)] #[])
  replace B12 := B12 _ _ (Nat.le_refl _) B11
  replace h12 : (Instr.mapUpdate 135 (.map (some w.heap.size)) (.int .u8 12) (.func (.func 65) #[.pointer (some ⟨bc, 0, none⟩)] #[])).run Try.prog W11 = .ok () W12 := h12
  obtain ⟨W13, h13, M13, B13⟩ := run_insK (k := 13) M12 (by simp) (.func (.func 66) #[.pointer (some ⟨bc, 0, none⟩)] #[])
  replace B13 := B13 _ _ (Nat.le_refl _) B12
  replace h13 : (Instr.mapUpdate 135 (.map (some w.heap.size)) (.int .u8 13) (.func (.func 66) #[.pointer (some ⟨bc, 0, none⟩)] #[])).run Try.prog W12 = .ok () W13 := h13
  obtain ⟨W14, h14, M14, B14⟩ := run_insK (k := 14) M13 (by simp) (.func (.func 65) #[.pointer (some ⟨bc, 0, none⟩)] #[])
  replace B14 := B14 _ _ (Nat.le_refl _) B13
  replace h14 : (Instr.mapUpdate 135 (.map (some w.heap.size)) (.int .u8 14) (.func (.func 65) #[.pointer (some ⟨bc, 0, none⟩)] #[])).run Try.prog W13 = .ok () W14 := h14
  obtain ⟨W15, h15, M15, B15⟩ := run_insK (k := 15) M14 (by simp) (.func (.func 65) #[.pointer (some ⟨bc, 0, none⟩)] #[])
  replace B15 := B15 _ _ (Nat.le_refl _) B14
  replace h15 : (Instr.mapUpdate 135 (.map (some w.heap.size)) (.int .u8 15) (.func (.func 65) #[.pointer (some ⟨bc, 0, none⟩)] #[])).run Try.prog W14 = .ok () W15 := h15
  have HL := run_lookK M15 (k := kd) (checkL_find bc kd)
  have HB := Lib.hid B15
  generalize checkV bc kd = V at *
  clear B0 B1 B2 B3 B4 B5 B6 B7 B8 B9 B10 B11 B12 B13 B14 B15 M0 M1 M2 M3 M4 M5 M6 M7 M8 M9 M10 M11 M12 M13 M14 M15
  go_enter Try.func45, Try.ntmps45
  go_wp2
  go_ret
  exact ⟨rfl, HB.out⟩
end Go.Proofs.Ytekamebpjjkifaa

/- Assignments, in the document: typed, walked. -/
namespace Go.Proofs.Ytekamebpjjkifaa
open Go.RowKit
set_option linter.unusedSimpArgs false
set_option linter.unusedVariables false

set_option maxRecDepth 100000 in
set_option maxHeartbeats 4000000 in
theorem rTyped_4 (k : KK) (p : KP) (hkd : p.kind = 4) (hl1 : 1 ≤ p.tos.length ∧ p.tos.length ≤ 8) (hg : p.g.length = 0) (B : Nat) (w : World) (hk : k.In w B) (ok : KOk k) (hi : p.One w B) (hB : B ≤ w.heap.size) :
    Calls Try.prog 41 #[.agg k.flat, .agg p.cells] w (RetV (.bool (assignsB k.vars p.tos p.e)) w) := by
  obtain ⟨W0, hW0⟩ : ∃ W, (w.alloc (.cells k.flat 34)).alloc (.cells p.cells 31) = W := ⟨_, rfl⟩
  obtain ⟨l1, l2, l3⟩ := lay2 w k.flat p.cells 34 31
  rw [hW0] at l1 l2 l3
  have HW : Hid (∀ w1 : World, Below w.heap.size w w1 → k.In w1 B ∧ p.One w1 B ∧ B ≤ w1.heap.size) := Lib.hid fun w1 hb => ⟨hk.below (hb.mono hB), hi.below (hb.mono hB), Nat.le_trans hB hb.size⟩
  have y3 : ((p.kind : Int) == 3) = false := by simp [hkd]
  have y4 : ((p.kind : Int) == 4) = true := by simp [hkd]
  obtain ⟨m, hm⟩ : ∃ m, p.tos.length = m := ⟨_, rfl⟩
  obtain ⟨me, hme⟩ : ∃ m, p.e.length = m := ⟨_, rfl⟩
  have HM := Lib.hid hm
  have HME := Lib.hid hme
  rw [hm] at hl1
  simp only [KK.flat, KP.cells, hm, hme, hg] at l2 l3 hW0 ⊢
  have S0 : Hid (PdAt w W0 #[.slice k.Av k.vars.length k.cv, .slice k.Ac k.chans.length k.cc, .int .u8 k.root.kind, .int .i64 k.root.c, .int .i64 k.root.v, .int .u8 k.root.item, .slice k.root.At k.root.tos.length k.root.ct, .slice k.root.Ae k.root.e.length k.root.ce, .slice k.root.Ag k.root.g.length k.root.cg, .slice k.root.Al k.root.l.length k.root.cl, .slice k.Ap k.procs.length k.cp] #[.int .u8 p.kind, .int .i64 p.c, .int .i64 p.v, .int .u8 p.item, .slice p.At m p.ct, .slice p.Ae me p.ce, .slice p.Ag 0 p.cg, .slice p.Al p.l.length p.cl]) := Lib.hid ⟨l1, l2, l3⟩
  have q0 := l2.cell 0
  simp at q0
  have e0 := l3.cell 0
  have e1 := l3.cell 1
  have e2 := l3.cell 2
  have e3 := l3.cell 3
  have e4 := l3.cell 4
  have e5 := l3.cell 5
  have e6 := l3.cell 6
  have e7 := l3.cell 7
  simp at e0 e1 e2 e3 e4 e5 e6 e7
  have HST := Lib.hid (fun (hl : p.tos.length = p.e.length) (j : Nat) (t : KPl) (e : KE) => assignsB_step (vs := k.vars) hl (j := j) (t := t) (e := e))
  have HEN := Lib.hid (fun (hl : p.tos.length = p.e.length) (j : Nat) => assignsB_end (vs := k.vars) hl (j := j))
  have HLN := Lib.hid (assignsB_len k.vars p.tos p.e)
  generalize assignsB k.vars p.tos p.e = R at *
  clear l1 l2 l3 hk hi hkd hm hme hg
  go_enter Try.func41, Try.ntmps41
  go_wp2_with fail
  go_loopw [5] (fun i wr => ∃ j : Nat, j ≤ m ∧ i = .int .i64 j ∧ Hid (PdAt w wr #[.slice k.Av k.vars.length k.cv, .slice k.Ac k.chans.length k.cc, .int .u8 k.root.kind, .int .i64 k.root.c, .int .i64 k.root.v, .int .u8 k.root.item, .slice k.root.At k.root.tos.length k.root.ct, .slice k.root.Ae k.root.e.length k.root.ce, .slice k.root.Ag k.root.g.length k.root.cg, .slice k.root.Al k.root.l.length k.root.cl, .slice k.Ap k.procs.length k.cp] #[.int .u8 p.kind, .int .i64 p.c, .int .i64 p.v, .int .u8 p.item, .slice p.At m p.ct, .slice p.Ae me p.ce, .slice p.Ag 0 p.cg, .slice p.Al p.l.length p.cl]) ∧ Hid (0 < j → m = me) ∧ Hid (((p.tos.zip p.e).take j).all (fun x => asgB k.vars x.1 x.2) = true)) (fun i _ => m - (intOf i).toNat)
  case atStart => exact ⟨0, Nat.zero_le _, rfl, S0, Lib.hid (fun h => absurd h (by omega)), Lib.hid (by simp)⟩
  case round =>
    clear S0 q0 e0 e1 e2 e3 e4 e5 e6 e7
    obtain ⟨j, hj, rfl, S, HJ, HA⟩ := hrel
    have x1 := S.out.kb
    have x2 := S.out.pb
    have hkw := x1.lt
    have hpw := x2.lt
    have q0 := x1.cell 0
    simp at q0
    have e0 := x2.cell 0
    have e1 := x2.cell 1
    have e2 := x2.cell 2
    have e3 := x2.cell 3
    have e4 := x2.cell 4
    have e5 := x2.cell 5
    have e6 := x2.cell 6
    have e7 := x2.cell 7
    simp at e0 e1 e2 e3 e4 e5 e6 e7
    clear x1 x2 e0 e1 e2 e3 e7
    by_cases hlt : j < m
    · have hltI : (j : Int) < m := by omega
      have hin := HW.out wr S.out.bel
      obtain ⟨b, off, x, hA, hb, hx, hix, c0, c1⟩ := kpl_row hin.2.1.2.1 (k := j) (by rw [HM.out]; exact hlt)
      have hbw : b < wr.heap.size := Nat.lt_of_lt_of_le hb hin.2.2
      rw [hA] at e4
      obtain ⟨vv, hvv⟩ : ∃ vv, x.v = vv := ⟨_, rfl⟩
      rw [hvv] at c0
      have hvs := hin.1.1.2.1
      have HV := Lib.hid (fun (h0 : ¬ vv < 0) (h1 : vv < (k.vars.length : Int)) => vars_at hvs rfl (k := vv.toNat) (by omega))
      have HN := Lib.hid (fun (h1 : ¬ vv < (k.vars.length : Int)) => List.getElem?_eq_none (l := k.vars) (i := vv.toNat) (by omega))
      by_cases hml : m = me
      · subst hml
        have HLE : Hid (p.tos.length = p.e.length) := Lib.hid (by rw [HM.out, HME.out])
        obtain ⟨b2, off2, y, hA2, hb2, hy, hiy, d0, d1, d2, d3, d4, d5⟩ := kes_six hin.2.1.2.2.1 (k := j) (by rw [HME.out]; exact hlt)
        have hbw2 : b2 < wr.heap.size := Nat.lt_of_lt_of_le hb2 hin.2.2
        rw [hA2] at e5
        have HX := Lib.hid (HST.out HLE.out j x y hx hy HA.out)
        have HAS := Lib.hid (show asgB k.vars x y = if x.v < 0 then false else match k.vars[x.v.toNat]? with
          | none => false
          | some z => placeB k.vars x z.kind && FitsB k.vars y z.kind from rfl)
        rw [hvv] at HAS
        generalize asgB k.vars x y = ab at *
        by_cases h0 : vv < 0
        · have HXX := Lib.hid (HX.out.1 (by rw [HAS.out, if_pos h0]))
          clear HV HN hx hy hix hiy hA hA2 hin hvs HX HAS
          go_upto_region 9 with fail
          go_quiet (fail)
          go_wp2
          go_ret
          exact ⟨by refine ret_bool rfl ?_; rw [HXX.out], below_drewN S.out.bel _⟩
        have HAS := Lib.hid (HAS.out.trans (if_neg h0))
        by_cases h1 : vv < (k.vars.length : Int)
        · obtain ⟨b3, off3, z, hA3, hb3, hz, hmz, z0, z1⟩ := HV.out h0 h1
          have hbw3 : b3 < wr.heap.size := Nat.lt_of_lt_of_le hb3 hin.2.2
          have h1n : ¬ (k.vars.length : Int) ≤ vv := by omega
          have hz3 := primB_cases (ok.vs z hmz).1
          have HP : Hid (∀ w1 : World, Below wr.heap.size wr w1 → Calls Try.prog 48 #[.slice (some ⟨b3, off3, none⟩) k.vars.length k.cv, .agg x.cells, .int .u8 z.kind] w1 (RetV (.bool (placeB k.vars x z.kind)) w1)) := Lib.hid fun w1 h => by
            have h1 := HW.out w1 (S.out.bel.trans (h.mono S.out.bel.size))
            rw [← hA3]
            exact rPlace16 k.vars x z.kind k.Av k.cv B w1 h1.1.1.2.1 ok.nv (hix.below (h.mono hin.2.2)) h1.2.2
          have HF : Hid (∀ w1 : World, Below wr.heap.size wr w1 → Calls Try.prog 49 #[.slice (some ⟨b3, off3, none⟩) k.vars.length k.cv, .agg y.cells, .int .u8 z.kind] w1 (RetV (.bool (FitsB k.vars y z.kind)) w1)) := Lib.hid fun w1 h => by
            have h1 := HW.out w1 (S.out.bel.trans (h.mono S.out.bel.size))
            rw [← hA3]
            exact rFitsV k.vars y z.kind (by rcases hz3 with h | h | h <;> simp [h]) k.Av k.cv B w1 h1.1.1.2.1 ok.nv (hiy.below (h.mono hin.2.2)) h1.2.2
          have HAS2 : Hid (ab = (placeB k.vars x z.kind && FitsB k.vars y z.kind)) := Lib.hid (by have h5 := HAS.out; rw [hz] at h5; exact h5)
          generalize placeB k.vars x z.kind = pb at *
          generalize FitsB k.vars y z.kind = fb at *
          rw [hA3] at q0
          simp only [KPl.cells, KE.cells, hvv] at HP HF
          clear HV HN hx hy hix hiy hA hA2 hA3 hin hvs hz hmz z1 HAS HA HJ HST HEN HLN e6 hz3
          go_upto_region 9 with fail
          obtain ⟨ι, F, i0', h0', hFb, hcl⟩ := fam_below wr
          have Fq0 := fun i => ((hFb i).cell (p := ⟨w.heap.size, 0, none⟩) hkw).trans q0
          have Fe4 := fun i => ((hFb i).cell (p := ⟨w.heap.size + 1, 4, none⟩) hpw).trans e4
          have Fe5 := fun i => ((hFb i).cell (p := ⟨w.heap.size + 1, 5, none⟩) hpw).trans e5
          have Fc0 := fun i => ((hFb i).cell (p := ⟨b, off + j * 2, none⟩) hbw).trans c0
          have Fc1 := fun i => ((hFb i).cell (p := ⟨b, off + j * 2 + 1, none⟩) hbw).trans c1
          have Fd0 := fun i => ((hFb i).cell (p := ⟨b2, off2 + j * 6, none⟩) hbw2).trans d0
          have Fd1 := fun i => ((hFb i).cell (p := ⟨b2, off2 + j * 6 + 1, none⟩) hbw2).trans d1
          have Fd2 := fun i => ((hFb i).cell (p := ⟨b2, off2 + j * 6 + 2, none⟩) hbw2).trans d2
          have Fd3 := fun i => ((hFb i).cell (p := ⟨b2, off2 + j * 6 + 3, none⟩) hbw2).trans d3
          have Fd4 := fun i => ((hFb i).cell (p := ⟨b2, off2 + j * 6 + 4, none⟩) hbw2).trans d4
          have Fd5 := fun i => ((hFb i).cell (p := ⟨b2, off2 + j * 6 + 5, none⟩) hbw2).trans d5
          have Fz0 := fun i => ((hFb i).cell (p := ⟨b3, off3 + vv.toNat * 2, none⟩) hbw3).trans z0
          have HCP := Lib.hid (fun i => HP.out (F i) (hFb i))
          have HCF := Lib.hid (fun i => HF.out (F i) (hFb i))
          haveI : Nonempty ι := ⟨i0'⟩
          clear HP HF q0 e4 e5 c0 c1 d0 d1 d2 d3 d4 d5 z0
          cases pb
          all_goals
            refine wp_region_quiet_fam F i0' h0' (by kernel_rfl) (by kernel_rfl) ?_
            repeat (go_big_quiet_step (first
              | (go_at_call 48; refine (HCP.out _).mono ?_; rintro e w4 ⟨rfl, hb4⟩; exact ⟨rfl, hcl _ _ hb4⟩)
              | (go_at_call 49; refine (HCF.out _).mono ?_; rintro e w4 ⟨rfl, hb4⟩; exact ⟨rfl, hcl _ _ hb4⟩)))
            refine wpQuiet_nil ?_
            intro i
            have S5 := Lib.hid (S.out.call (hFb i))
            clear HCP HCF Fq0 Fe4 Fe5 Fc0 Fc1 Fd0 Fd1 Fd2 Fd3 Fd4 Fd5 Fz0
          · have HXX := Lib.hid (HX.out.1 (by rw [HAS2.out]; rfl))
            go_wp2
            go_ret
            exact ⟨by refine ret_bool rfl ?_; rw [HXX.out], S5.out.bel⟩
          · cases fb
            · have HXX := Lib.hid (HX.out.1 (by rw [HAS2.out]; rfl))
              go_wp2
              go_ret
              exact ⟨by refine ret_bool rfl ?_; rw [HXX.out], S5.out.bel⟩
            · have HXX := Lib.hid (HX.out.2 (by rw [HAS2.out]; rfl))
              go_wp2
              go_roundw
              case rel => exact ⟨j + 1, by omega, by go_num, S5, Lib.hid (fun _ => trivial), HXX⟩
              case measure => simp [intOf]; omega
        · have HXX := Lib.hid (HX.out.1 (by rw [HAS.out, HN.out h1]))
          have h1n : (k.vars.length : Int) ≤ vv := by omega
          clear HV HN hx hy hix hiy hA hA2 hin hvs HX HAS
          go_upto_region 9 with fail
          go_quiet (fail)
          go_wp2
          go_ret
          exact ⟨by refine ret_bool rfl ?_; rw [HXX.out], below_drewN S.out.bel _⟩
      · have HXX := Lib.hid (HLN.out (by rw [HM.out, HME.out]; exact hml))
        have hm1 : ((me : Int) == (m : Int)) = false := by simp; omega
        have hm2 : ((me : Int) != (m : Int)) = true := by simp; omega
        clear HV HN hx hix hA hin hvs hml
        go_upto_region 9 with fail
        go_quiet (fail)
        go_wp2
        go_ret
        exact ⟨by refine ret_bool rfl ?_; rw [HXX.out], below_drewN S.out.bel _⟩
    · have hltI : ¬ (j : Int) < m := by omega
      obtain rfl : m = j := by omega
      have HXX := Lib.hid (HEN.out (by rw [HM.out, HME.out]; exact HJ.out (by omega)) m (Nat.le_of_eq HM.out) HA.out)
      go_wp2
      go_loopw [7] (fun i wx => i = .int .i64 0 ∧ Hid (PdAt w wx #[.slice k.Av k.vars.length k.cv, .slice k.Ac k.chans.length k.cc, .int .u8 k.root.kind, .int .i64 k.root.c, .int .i64 k.root.v, .int .u8 k.root.item, .slice k.root.At k.root.tos.length k.root.ct, .slice k.root.Ae k.root.e.length k.root.ce, .slice k.root.Ag k.root.g.length k.root.cg, .slice k.root.Al k.root.l.length k.root.cl, .slice k.Ap k.procs.length k.cp] #[.int .u8 p.kind, .int .i64 p.c, .int .i64 p.v, .int .u8 p.item, .slice p.At m p.ct, .slice p.Ae me p.ce, .slice p.Ag 0 p.cg, .slice p.Al p.l.length p.cl])) (fun i _ => 0)
      case atStart => exact ⟨rfl, S⟩
      case round =>
        obtain ⟨rfl, S⟩ := hrel
        have x2 := S.out.pb
        have e0 := x2.cell 0
        have e1 := x2.cell 1
        have e2 := x2.cell 2
        have e3 := x2.cell 3
        have e4 := x2.cell 4
        have e5 := x2.cell 5
        have e6 := x2.cell 6
        have e7 := x2.cell 7
        simp at e0 e1 e2 e3 e4 e5 e6 e7
        clear x2
        go_wp2
        go_ret
        exact ⟨by refine ret_bool rfl ?_; rw [HXX.out], S.out.bel⟩
end Go.Proofs.Ytekamebpjjkifaa
