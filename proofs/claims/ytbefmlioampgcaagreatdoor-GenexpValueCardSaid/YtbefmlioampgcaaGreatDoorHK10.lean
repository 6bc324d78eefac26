/- Texts that belong together, joined: what each one holds is told ahead of it. -/
import Derived.Test.YtbefmlioampgcaaGreatDoorHK9
import Derived.Test.YtbefmlioampgcaaGreatDoorHK18
import Derived.Test.YtbefmlioampgcaaGreatDoorHCI
import Derived.Test.YtbefmlioampgcaaGreatDoorHK3
import Derived.Test.YtbefmlioampgcaaGreatDoorHK8
import Derived.Deep.AppendLies
set_option linter.unusedVariables false
set_option linter.unusedSimpArgs false
/- A run, step by step, in plain words. -/
namespace Go.Proofs.YtbefmlioampgcaaGreatDoor
open Go.RowKit
set_option linter.unusedVariables false
set_option linter.unusedSimpArgs false

theorem wrap_is (t : Int) : is32 (IntKind.i32.wrap t) := by rw [IntKind.wrap_i32]; unfold is32; omega
theorem and_is (x y : Int) : is32 (bits .and .i32 x y) := by
  show is32 (IntKind.i32.wrap ((BitVec.ofInt 32 x &&& BitVec.ofInt 32 y).toNat : Nat))
  exact wrap_is _
theorem or_is (x y : Int) : is32 (bits .or .i32 x y) := by
  show is32 (IntKind.i32.wrap ((BitVec.ofInt 32 x ||| BitVec.ofInt 32 y).toNat : Nat))
  exact wrap_is _
theorem xor_is (x y : Int) : is32 (bits .xor .i32 x y) := by
  show is32 (IntKind.i32.wrap ((BitVec.ofInt 32 x ^^^ BitVec.ofInt 32 y).toNat : Nat))
  exact wrap_is _
set_option maxHeartbeats 1000000 in
theorem binO_is {op x y : Int} {p : Int × Bool} (hx : is32 x) (hy : is32 y) (h : binO op x y = some p) : is32 p.1 := by
  unfold binO at h
  by_cases e5 : op = 5
  · rw [if_pos e5] at h
    injection h with h
    subst h
    dsimp only
    exact wrap32_is _
  rw [if_neg e5] at h
  by_cases e12 : op = 12
  · rw [if_pos e12] at h
    injection h with h
    subst h
    dsimp only
    exact wrap32_is _
  rw [if_neg e12] at h
  by_cases e83 : op = 83
  · rw [if_pos e83] at h
    injection h with h
    subst h
    dsimp only
    exact wrap32_is _
  rw [if_neg e83] at h
  by_cases e44 : op = 44
  · rw [if_pos e44] at h
    injection h with h
    subst h
    by_cases hc : y = 0 ∨ (x = -2147483648 ∧ y = -1)
    · rw [if_pos hc]; exact is32_0
    · rw [if_neg hc]; exact tdiv_is hx hy hc
  rw [if_neg e44] at h
  by_cases e31 : op = 31
  · rw [if_pos e31] at h
    injection h with h
    subst h
    by_cases hc : y = 0
    · rw [if_pos hc]; exact is32_0
    · rw [if_neg hc]; exact tmod_is hx
  rw [if_neg e31] at h
  by_cases e82 : op = 82
  · rw [if_pos e82] at h
    injection h with h
    subst h
    dsimp only
    exact wrap32_is _
  rw [if_neg e82] at h
  by_cases e4 : op = 4
  · rw [if_pos e4] at h
    injection h with h
    subst h
    dsimp only
    exact wrap32_is _
  rw [if_neg e4] at h
  by_cases e8 : op = 8
  · rw [if_pos e8] at h
    injection h with h
    subst h
    dsimp only
    exact wrap32_is _
  rw [if_neg e8] at h
  by_cases e70 : op = 70
  · rw [if_pos e70] at h
    injection h with h
    subst h
    dsimp only
    exact and_is x y
  rw [if_neg e70] at h
  by_cases e75 : op = 75
  · rw [if_pos e75] at h
    injection h with h
    subst h
    dsimp only
    exact or_is x y
  rw [if_neg e75] at h
  by_cases e51 : op = 51
  · rw [if_pos e51] at h
    injection h with h
    subst h
    dsimp only
    exact xor_is x y
  rw [if_neg e51] at h
  by_cases e65 : op = 65
  · rw [if_pos e65] at h
    injection h with h
    subst h
    dsimp only
    exact wrap32_is _
  rw [if_neg e65] at h
  by_cases e64 : op = 64
  · rw [if_pos e64] at h
    injection h with h
    subst h
    dsimp only
    exact wrap32_is _
  rw [if_neg e64] at h
  by_cases e9 : op = 9
  · rw [if_pos e9] at h
    injection h with h
    subst h
    dsimp only
    exact truthL_is _
  rw [if_neg e9] at h
  by_cases e19 : op = 19
  · rw [if_pos e19] at h
    injection h with h
    subst h
    dsimp only
    exact hx
  rw [if_neg e19] at h
  by_cases e10 : op = 10
  · rw [if_pos e10] at h
    injection h with h
    subst h
    dsimp only
    exact wrap32_is _
  rw [if_neg e10] at h
  cases h
theorem opR_ok {r q : RegL} {op : Int} (hr : r.Ok) (h : opR r op = some q) : q.Ok := by
  unfold opR at h
  obtain ⟨ha, hb, hc⟩ := hr
  split at h
  · cases h; exact ⟨hb, ha, hc⟩
  split at h
  · cases h; exact ⟨by unfold is32 at *; simp only; omega, hb, hc⟩
  split at h
  · cases h; exact ⟨truthL_is _, ha, hb⟩
  · obtain ⟨p, hp, rfl⟩ := Option.map_eq_some_iff.1 h
    exact ⟨binO_is hb ha hp, hc, hc⟩
theorem plainO_ok {x : LineL} {r : RegL} (hx : is32 x.arg) (hr : r.Ok) : (plainO x r).Ok := by
  unfold plainO
  obtain ⟨ha, hb, hc⟩ := hr
  split; · exact ⟨hx, ha, hb⟩
  split; · exact ⟨wrap32_is _, ha, hb⟩
  split; · exact ⟨wrap32_is _, hb, hc⟩
  split; · exact ⟨truthL_is _, hb, hc⟩
  cases h : opR r x.arg with
  | none => exact ⟨ha, hb, hc⟩
  | some q => exact opR_ok ⟨ha, hb, hc⟩ h
theorem moveO_ok {x : LineL} {r : RegL} {m : List Int} {q : RegL × List Int} (hr : r.Ok) (hm : ∀ v ∈ m, is32 v) (h : moveO x r m = some q) : q.1.Ok ∧ (∀ v ∈ q.2, is32 v) ∧ q.2.length = m.length := by
  unfold moveO at h
  obtain ⟨ha, hb, hc⟩ := hr
  have hd : ∀ k : Nat, is32 (m.getD k 0) := by
    intro k
    rw [List.getD_eq_getElem?_getD]
    cases hk : m[k]? with
    | none => exact is32_0
    | some v => exact hm v (List.mem_of_getElem? hk)
  split at h; · cases h
  split at h; · cases h; exact ⟨⟨hd _, ha, hb⟩, hm, rfl⟩
  split at h; · cases h; exact ⟨⟨hd _, hb, hc⟩, hm, rfl⟩
  cases h
  refine ⟨⟨hb, hc, hc⟩, fun v hv => ?_, by simp⟩
  rcases List.mem_or_eq_of_mem_set hv with h | h
  · exact hm v h
  · rw [h]; exact ha
theorem run_go {ls : List LineL} {k : Nat} {x : LineL} (h : ls[k]? = some x) (r : RegL) (m : List Int) : runS (ls.drop k) none r m = match stepO x r m with
    | .go r' m' => runS (ls.drop (k + 1)) none r' m'
    | .jump t => runS (ls.drop (k + 1)) (some t) r m
    | .halt v => v := by
  have hd : ls.drop k = x :: ls.drop (k + 1) := by
    rw [List.drop_eq_getElem_cons (List.getElem?_eq_some_iff.1 h).1]
    congr 1
    exact (List.getElem?_eq_some_iff.1 h).2
  rw [hd, runS]
  rfl
theorem run_end {ls : List LineL} {k : Nat} (h : ls.length ≤ k) (r : RegL) (m : List Int) : runS (ls.drop k) none r m = if r.e then (0, true, 0) else (r.a, false, 0) := by
  rw [List.drop_eq_nil_of_le h, runS]
/-- A jump leads to the line that has the label. -/
theorem run_jump {ls : List LineL} {k : Nat} {x : LineL} (hf : faultE ls = 0) (h : ls[k]? = some x) (h10 : x.fn = 10) (hs : x.target ≠ stopT) (r : RegL) (m : List Int) :
    ∃ j, atL ls x.target = some j ∧ atL (ls.drop (k + 1)) x.target = some (j - (k + 1)) ∧ k < j ∧ j < ls.length ∧ x.target ≠ [] ∧ runS (ls.drop (k + 1)) (some x.target) r m = runS (ls.drop j) none r m := by
  obtain ⟨hd, hok, ha⟩ := fault_dist hf
  have hrb := List.all_eq_true.1 ha x (List.mem_of_getElem? h)
  have hne : x.target.isEmpty = false := by
    cases hz : x.target.isEmpty with
    | false => rfl
    | true => unfold runsB at hrb; rw [hz, h10] at hrb; simp at hrb
  have hk := hok k x h
  rw [okR_dist hd h, hne] at hk
  have hs2 : (x.target == stopT) = false := by simpa using hs
  rw [hs2] at hk
  simp only [Bool.false_or, Bool.and_eq_true, decide_eq_true_eq] at hk
  obtain ⟨h1, h2⟩ := hk
  obtain ⟨j, hj⟩ := Option.isSome_iff_exists.1 h1
  rw [hj] at h2
  simp only [Option.getD_some] at h2
  have hjl := atL_lt hj
  have hj2 := hj
  unfold atL at hj2
  obtain ⟨hj3, hp, hn⟩ := List.findIdx?_eq_some_iff_getElem.1 hj2
  refine ⟨j, hj, ?_, h2, hjl, (by intro e; rw [e] at hne; cases hne), ?_⟩
  · unfold atL
    refine List.findIdx?_eq_some_iff_getElem.2 ⟨by simp; omega, ?_, fun i hi => ?_⟩
    · simp only [List.getElem_drop]
      have e : k + 1 + (j - (k + 1)) = j := by omega
      simp only [e]
      exact hp
    · simp only [List.getElem_drop]
      exact hn (k + 1 + i) (by omega)
  · rw [runS_skip (ls.drop (k + 1)) (j - (k + 1)) x.target r m ls[j] (by rw [List.getElem?_drop, show k + 1 + (j - (k + 1)) = j by omega]; exact List.getElem?_eq_getElem hj3) (by simpa using hp) (fun i y hi hy => ?_)]
    · rw [List.drop_drop, show k + 1 + (j - (k + 1)) = j by omega]
    · rw [List.getElem?_drop] at hy
      have h5 := hn (k + 1 + i) (by omega)
      obtain ⟨h6, h7⟩ := List.getElem?_eq_some_iff.1 hy
      rw [h7] at h5
      simpa using h5
/-- The answer of Run as a value. -/
def runV (q : Int × Bool × Int) : Value := .tuple #[.int .i32 q.1, .bool q.2.1, .int .i64 q.2.2]
end Go.Proofs.YtbefmlioampgcaaGreatDoor

/- Run, walked in the program. -/
namespace Go.Proofs.YtbefmlioampgcaaGreatDoor
open Go.RowKit Go.Maps Go.WideMaps

theorem i32_info : (Tryz.prog.info? 21).map (fun i => (i.zero, i.size, i.bytes)) = some (some (.int .i32 0), 1, 4) := by kernel_rfl
theorem own_form {w : World} {B e size n : Nat} {v : Value} {xs : List Value} (h : w.ownsRow B e size v n xs) : ∃ A cap, v = .slice A n cap := by
  rcases h.2 with ⟨rfl, h0⟩ | ⟨g, cap, cur, rfl, _⟩
  · have : n = 0 ∨ True := .inr trivial
    have hn : n = 0 := by first | exact h0 | omega
    subst hn
    exact ⟨none, 0, rfl⟩
  · exact ⟨_, cap, rfl⟩
/-- What an append onto nothing makes: the words of a run. -/
theorem own_mem {w : World} {base mb q : Nat} {D : DataW Unit} {A : Option Addr} {c m : Nat} {ws : List Int} (hm : ws.length = m) (h : w.ownsRow base 21 1 (.slice A m c) m (wordsC ws)) (hb : base ≤ w.heap.size) (ho : OwnI w mb q D) :
    ∃ g, MemAt w g A ws ∧ base ≤ g ∧ g ≠ w.heap.size ∧ mb ≠ g := by
  subst hm
  rcases Nat.eq_zero_or_pos ws.length with h0 | h0
  · exact ⟨w.heap.size + 1, fun h => by omega, by omega, by omega, by have := ho.lt; omega⟩
  · obtain ⟨g, cap, hv, hle, hlt⟩ := h.form h0
    injection hv with hA
    subst hA
    refine ⟨g, fun _ => ⟨rfl, RowW.of_own h⟩, hle, by omega, ?_⟩
    rintro rfl
    obtain ⟨cur, hbk, -⟩ := RowW.of_own h
    obtain ⟨es, clock, hmk, -⟩ := ho
    unfold Blk at hbk
    rw [hmk] at hbk
    cases hbk
theorem own_heap {w w1 : World} {b n : Nat} {D : DataW Unit} (h : OwnI w b n D) (hh : w1.heap[b]? = w.heap[b]?) : OwnI w1 b n D := by
  obtain ⟨es, clock, hb, F, hs, hD⟩ := h
  exact ⟨es, clock, hh.trans hb, F, hs, hD⟩
theorem own_upd2 {w w1 : World} {b n s g : Nat} {D : DataW Unit} (h : OwnI w b n D) (hu : Upd2 s g w w1) (h1 : b ≠ s) (h2 : b ≠ g) : OwnI w1 b n D := own_heap h (hu.block b h.lt (by omega))
theorem words_one (ws : List Int) : ∀ u ∈ wordsC ws, u.oneCell' = true := by
  intro u hu
  obtain ⟨z, -, rfl⟩ := List.mem_map.1 hu
  rfl
set_option maxRecDepth 100000 in
theorem own_atG {w : World} {b n : Nat} {ls : List LineL} (h : OwnI w b n (mapG ls)) (hd : Dist ls) {l : List UInt8} (hl : l.length ≤ 281474976710656) (hne : l ≠ []) :
    (Instr.lookup 74 (.map (some b)) (.string (strB l)) false).run Tryz.prog w = .ok (.int .i64 ((atL ls l).getD 0 : Nat)) w := by
  obtain ⟨c, hrun, hat, -⟩ := h.lookup_int lawStr Tryz.underlying74 Tryz.underlying3 (zero_int w) (str_key hl)
  rw [mapG_at hd hne] at hat
  injection hat with hat
  injection hat with _ hat
  rw [← hat] at hrun
  exact hrun
/-- The state of a run ahead of line k. -/
structure RunAt (ls : List LineL) (w : World) (mb q s g : Nat) (A : Option Addr) (n0 : Nat) (R : Int × Bool × Int) (k : Nat) (r : RegL) (m : List Int) (wr : World) : Prop where
  below : Below w.heap.size w wr
  map : OwnI wr mb q (mapG ls)
  regs : Blk wr s 79 r.cells
  mem : MemAt wr g A m
  ok : r.Ok
  words : ∀ v ∈ m, is32 v
  len : m.length = n0
  run : runS (ls.drop k) none r m = R
section
variable {ls : List LineL} {w wr w' : World} {mb q s g n0 k k' : Nat} {A : Option Addr} {R : Int × Bool × Int} {r r' : RegL} {m m' : List Int}
theorem RunAt.alloc (h : RunAt ls w mb q s g A n0 R k r m wr) (o : Obj) : RunAt ls w mb q s g A n0 R k r m (wr.alloc o) :=
  ⟨h.below.alloc h.below.size o, h.map.alloc o, h.regs.alloc o, fun hm => ⟨(h.mem hm).1, (h.mem hm).2.alloc o⟩, h.ok, h.words, h.len, h.run⟩
theorem RunAt.step (h : RunAt ls w mb q s g A n0 R k r m wr) (h1 : w.heap.size ≤ s) (h2 : s ≠ g) (h3 : mb ≠ s) (hu : UpdB s wr w') (hb : Blk w' s 79 r'.cells) (hok : r'.Ok) (hrun : runS (ls.drop k') none r' m = R) : RunAt ls w mb q s g A n0 R k' r' m w' :=
  ⟨h.below.trans ((hu.below h.regs.lt).mono h1), own_heap h.map (hu.block mb h.map.lt h3), hb, h.mem.upd hu h2, hok, h.words, h.len, hrun⟩
theorem RunAt.moved (h : RunAt ls w mb q s g A n0 R k r m wr) (h1 : w.heap.size ≤ s) (h1g : w.heap.size ≤ g) (h3 : mb ≠ s) (h4 : mb ≠ g) (hu : Upd2 s g wr w') (hb : Blk w' s 79 r'.cells) (hm : MemAt w' g A m') (hok : r'.Ok) (hw : ∀ v ∈ m', is32 v) (hl : m'.length = m.length)
    (hrun : runS (ls.drop k') none r' m' = R) : RunAt ls w mb q s g A n0 R k' r' m' w' :=
  ⟨h.below.trans (hu.below h1 h1g h.below.size), own_upd2 h.map hu h3 h4, hb, hm, hok, hw, hl.trans h.len, hrun⟩
end
theorem step_10 {x : LineL} (h : x.fn = 10) (r : RegL) (m : List Int) : stepO x r m = if r.a ≠ 0 then .go r.pop m else if x.target = stopT then .halt (0, true, 0) else .jump x.target := by unfold stepO; rw [if_pos h]
theorem step_move {x : LineL} (h : x.fn = 7 ∨ x.fn = 13 ∨ x.fn = 3) (r : RegL) (m : List Int) : stepO x r m = match moveO x r m with
    | none => .halt (0, false, 4)
    | some (r', m') => .go r' m' := by
  unfold stepO
  rw [if_neg (by omega)]
  have : accessB x = true := by unfold accessB; simp; omega
  rw [if_pos this]
  cases moveO x r m <;> rfl
theorem step_plain {x : LineL} (h : ¬ x.fn = 10) (h2 : ¬ (x.fn = 7 ∨ x.fn = 13 ∨ x.fn = 3)) (r : RegL) (m : List Int) : stepO x r m = .go (plainO x r) m := by
  unfold stepO
  rw [if_neg h]
  have : ¬ accessB x = true := by unfold accessB; simp; omega
  rw [if_neg this]
end Go.Proofs.YtbefmlioampgcaaGreatDoor

/- The emitter of an expression's code in memory; put and jump, walked. -/
namespace Go.Proofs.YtbefmlioampgcaaGreatDoor
open Go.RowKit
set_option linter.unusedVariables false
set_option linter.unusedSimpArgs false

/-- What surrounds an expression: the variables, the space, the frame, the label. -/
structure EmL where
  Av : Option Addr
  cv : Nat
  vars : List KVar
  s : SpL
  frame : Int
  label : List UInt8
def EmL.cells (g : EmL) (v : Value) (made : Nat) (next : List UInt8) : Array Value :=
  #[.slice g.Av g.vars.length g.cv, .slice g.s.Af g.s.fr.length g.s.cf, .slice g.s.A1 g.s.vat.length g.s.c1, .slice g.s.A2 g.s.vin.length g.s.c2, .slice g.s.A3 g.s.cat.length g.s.c3, .slice g.s.A4 g.s.cin.length g.s.c4,
    .int .i64 g.frame, .string (strB g.label), v, .int .i64 made, .string (strB next)]
/-- The emitter lies in block bm, its lines in a row of their own. -/
def Em (g : EmL) (bm base : Nat) (ls : List LineL) (made : Nat) (next : List UInt8) (w : World) : Prop :=
  base ≤ bm ∧ ∃ v, Blk w bm 72 (g.cells v made next) ∧ w.ownsRow base 62 5 v ls.length (linesL ls)
/-- What lies below base stays, and every block that is no row of lines and not the emitter. -/
def EmK (bm base : Nat) (w w' : World) : Prop :=
  Below base w w' ∧ ∀ (k : Nat) (t : TypeId) (cs : Array Value), Blk w k t cs → t ≠ 62 → k ≠ bm → Blk w' k t cs
section
variable {bm base : Nat} {w w1 w2 w' : World}
theorem EmK.refl (bm base : Nat) (w : World) : EmK bm base w w := ⟨Below.refl _ _, fun _ _ _ h _ _ => h⟩
theorem EmK.trans (h : EmK bm base w w1) (k : EmK bm base w1 w2) : EmK bm base w w2 := ⟨h.1.trans k.1, fun b t cs hb ht hn => k.2 b t cs (h.2 b t cs hb ht hn) ht hn⟩
theorem EmK.of_below (h : Below w.heap.size w w') (hb : base ≤ w.heap.size) : EmK bm base w w' := ⟨h.mono hb, fun b t cs hk _ _ => hk.call h⟩
theorem EmK.set (h : base ≤ bm) (w : World) (o : Nat) (u : Value) : EmK bm base w (w.setCell ⟨bm, o, none⟩ u) := ⟨(Below.refl _ _).setCell h u, fun b t cs hk _ hn => hk.far hn u⟩
theorem EmK.grown {v : Value} {n : Nat} {xs : List Value} (hO : w.ownsRow base 62 5 v n xs) (hb : base ≤ w.heap.size) (hg : w.grownBy w' v.ownBlock) : EmK bm base w w' :=
  ⟨(Below.refl _ _).grown hg hb (fun k hk => (hO.lt k hk).1), fun b t cs hk ht _ => hk.grown hg (fun e => own_blk_ne hO hk (fun e2 => ht e2.symm) e.symm)⟩
theorem EmK.size (h : EmK bm base w w') : w.heap.size ≤ w'.heap.size := h.1.size
theorem Em.below {g : EmL} {ls : List LineL} {made : Nat} {next : List UInt8} (h : Em g bm base ls made next w) (hb : Below w.heap.size w w') : Em g bm base ls made next w' := by
  obtain ⟨h1, v, h2, h3⟩ := h
  exact ⟨h1, v, h2.call hb, h3.below hb⟩
theorem Em.lt {g : EmL} {ls : List LineL} {made : Nat} {next : List UInt8} (h : Em g bm base ls made next w) : bm < w.heap.size := by
  obtain ⟨h1, v, h2, h3⟩ := h
  exact h2.lt
theorem Em.base_le {g : EmL} {ls : List LineL} {made : Nat} {next : List UInt8} (h : Em g bm base ls made next w) : base ≤ w.heap.size := Nat.le_of_lt (Nat.lt_of_le_of_lt h.1 h.lt)
end
/-- A call that adds lines. -/
def RetEm (g : EmL) (bm base : Nat) (ls : List LineL) (made : Nat) (next : List UInt8) (w : World) (e : Ending) (w' : World) : Prop :=
  e = .returned (.tuple #[]) ∧ Em g bm base ls made next w' ∧ EmK bm base w w'
theorem line_info : (Tryz.prog.info? 62).map (fun i => (i.zero, i.size, i.bytes)) = some (some (.agg #[.string ⟨#[]⟩, .int .u8 0, .int .i32 0, .string ⟨#[]⟩, .string ⟨#[]⟩]), 5, 56) := by kernel_rfl
theorem linesL_snoc (ls : List LineL) (x : LineL) : linesL (ls ++ [x]) = linesL ls ++ (lineC x).toList := by simp [linesL]
/-- As put and jump end: the new row in its cell, no label waits. -/
theorem em_end {g : EmL} {bm base made : Nat} {ls : List LineL} {x : LineL} {w w1 w3 : World} {v v' : Value} {next : List UInt8} (h1 : base ≤ bm) (hB : Blk w1 bm 72 (g.cells v made next)) (hO : w1.ownsRow base 62 5 v ls.length (linesL ls))
    (hk : EmK bm base w w1) (hown : w3.ownsRow base 62 5 v' (ls.length + 1) (linesL ls ++ (lineC x).toList)) (hg : w1.grownBy w3 v.ownBlock) :
    Em g bm base (ls ++ [x]) made [] ((w3.setCell ⟨bm, 8, none⟩ v').setCell ⟨bm, 10, none⟩ (.string ⟨#[]⟩)) ∧ EmK bm base w ((w3.setCell ⟨bm, 8, none⟩ v').setCell ⟨bm, 10, none⟩ (.string ⟨#[]⟩)) := by
  have hbs : base ≤ w1.heap.size := by have := hB.lt; omega
  have hB3 : Blk w3 bm 72 (g.cells v made next) := hB.grown hg (fun e => own_blk_ne hO hB (by decide) e.symm)
  have hB4 := (hB3.set_ 8 v').set_ 10 (.string ⟨#[]⟩)
  have hne := own_blk_ne hown hB3 (by decide)
  have hfar : ∀ (W : World) (o : Nat) (u : Value), W.ownsRow base 62 5 v' (ls.length + 1) (linesL ls ++ (lineC x).toList) → (W.setCell ⟨bm, o, none⟩ u).ownsRow base 62 5 v' (ls.length + 1) (linesL ls ++ (lineC x).toList) := fun W o u h => by
    refine ⟨h.1, ?_⟩
    rcases h.2 with hn | ⟨b, cap, cur, e, hb', hgg, rest⟩
    · exact .inl hn
    · refine .inr ⟨b, cap, cur, e, hb', ?_, rest⟩
      rw [Below.heap_setCell W _ u b (by rintro rfl; exact hne (by rw [e]; rfl))]
      exact hgg
  refine ⟨⟨h1, v', hB4, ?_⟩, ((hk.trans (EmK.grown hO hbs hg)).trans (EmK.set h1 _ _ _)).trans (EmK.set h1 _ _ _)⟩
  rw [linesL_snoc, List.length_append]
  exact hfar _ _ _ (hfar _ _ _ hown)
set_option maxRecDepth 100000 in
set_option maxHeartbeats 4000000 in
theorem gPut (g : EmL) (bm base : Nat) (ls : List LineL) (made : Nat) (next : List UInt8) (fn : Nat) (arg : Int) (hl : ls.length ≤ 1000000) (w : World) (h : Em g bm base ls made next w) :
    Calls Tryz.prog 40 #[.pointer (some ⟨bm, 0, none⟩), .int .u8 fn, .int .i32 arg] w (RetEm g bm base (ls ++ [⟨next, fn, arg, [], []⟩]) made [] w) := by
  obtain ⟨i0, hi0, hz0, hz1, hz2⟩ := info_parts line_info
  have hbs := h.base_le
  obtain ⟨h1, v, hB, hO⟩ := h
  obtain ⟨A, c, rfl⟩ := own_form hO
  have HB := Lib.hid hB
  have HO := Lib.hid hO
  have hlt := hB.lt
  simp only [EmL.cells] at hB
  have c0 := hB.cell 0
  have c1 := hB.cell 1
  have c2 := hB.cell 2
  have c3 := hB.cell 3
  have c4 := hB.cell 4
  have c5 := hB.cell 5
  have c6 := hB.cell 6
  have c7 := hB.cell 7
  have c8 := hB.cell 8
  have c9 := hB.cell 9
  have c10 := hB.cell 10
  simp at c0 c1 c2 c3 c4 c5 c6 c7 c8 c9 c10
  have f0 := hB.frozen 0
  have f1 := hB.frozen 1
  have f2 := hB.frozen 2
  have f3 := hB.frozen 3
  have f4 := hB.frozen 4
  have f5 := hB.frozen 5
  have f6 := hB.frozen 6
  have f7 := hB.frozen 7
  have f8 := hB.frozen 8
  have f9 := hB.frozen 9
  have f10 := hB.frozen 10
  have hO1 : (w.drew.alloc (.cells #[.string (strB next), .int .u8 fn, .int .i32 arg, .string ⟨#[]⟩, .string ⟨#[]⟩] 62)).ownsRow base 62 5 (.slice A ls.length c) ls.length (linesL ls) := hO.drew'.alloc _
  have b1 : Blk (w.drew.alloc (.cells #[.string (strB next), .int .u8 fn, .int .i32 arg, .string ⟨#[]⟩, .string ⟨#[]⟩] 62)) w.heap.size 62 #[.string (strB next), .int .u8 fn, .int .i32 arg, .string ⟨#[]⟩, .string ⟨#[]⟩] := Blk.new w.drew _ _
  have hz1' : base ≤ (w.drew.alloc (.cells #[.string (strB next), .int .u8 fn, .int .i32 arg, .string ⟨#[]⟩, .string ⟨#[]⟩] 62)).heap.size := by simp; omega
  have hl1 : ls.length + 1 ≤ 1099511627776 := by omega
  have hl2 : (ls.length + 1) * 56 ≤ 140737488355328 := by omega
  have hone : ∀ u ∈ (#[.string (strB next), .int .u8 fn, .int .i32 arg, .string ⟨#[]⟩, .string ⟨#[]⟩] : Array Value).toList, u.oneCell' = true := by simp [Value.oneCell']
  have HO1 := Lib.hid hO1
  have HB1 := Lib.hid b1
  clear hB hO hO1 b1
  go_enter Tryz.func40, Tryz.ntmps40
  go_wp2
  go_region_law (refine step_app_own Tryz.underlying41 hi0 hz0 hz1 hz2 rfl (by decide) HO1.out hz1' rfl (.tmp 10) (.tmp 18) rfl rfl w.heap.size 1 1 #[.string (strB next), .int .u8 fn, .int .i32 arg, .string ⟨#[]⟩, .string ⟨#[]⟩] rfl HB1.out rfl hone hl1 hl2 ?_
                 intro v3 w3 ho3 hg3 hb3 hat3
                 obtain ⟨A3, c3, rfl⟩ := own_form ho3
                 have b3 := Blk.grown (HB.out.drew.alloc _) hg3 (fun e => own_blk_ne HO1.out (HB.out.drew.alloc _) (by decide) e.symm)
                 simp only [EmL.cells] at b3
                 have e8 := b3.cell 8
                 have f8 := b3.frozen 8
                 have e10 := b3.cell 10
                 have f10 := b3.frozen 10
                 have l3 := b3.lt
                 simp at e8 e10
                 have HE := Lib.hid (em_end (x := ⟨next, fn, arg, [], []⟩) h1 (HB.out.drew.alloc _) HO1.out (EmK.of_below ((Below.refl _ _).drew.alloc (Nat.le_refl _) _) hbs) ho3 hg3)
                 clear ho3 hg3 hb3 hat3 b3)
  all_goals
    go_wp2
    go_end0
    exact ⟨rfl, HE.out.1, HE.out.2⟩
set_option maxRecDepth 100000 in
set_option maxHeartbeats 4000000 in
theorem gJump (g : EmL) (bm base : Nat) (ls : List LineL) (made : Nat) (next t : List UInt8) (hl : ls.length ≤ 1000000) (w : World) (h : Em g bm base ls made next w) :
    Calls Tryz.prog 63 #[.pointer (some ⟨bm, 0, none⟩), .string (strB t)] w (RetEm g bm base (ls ++ [⟨next, 10, 0, t, []⟩]) made [] w) := by
  obtain ⟨i0, hi0, hz0, hz1, hz2⟩ := info_parts line_info
  have hbs := h.base_le
  obtain ⟨h1, v, hB, hO⟩ := h
  obtain ⟨A, c, rfl⟩ := own_form hO
  have HB := Lib.hid hB
  have HO := Lib.hid hO
  have hlt := hB.lt
  simp only [EmL.cells] at hB
  have c0 := hB.cell 0
  have c1 := hB.cell 1
  have c2 := hB.cell 2
  have c3 := hB.cell 3
  have c4 := hB.cell 4
  have c5 := hB.cell 5
  have c6 := hB.cell 6
  have c7 := hB.cell 7
  have c8 := hB.cell 8
  have c9 := hB.cell 9
  have c10 := hB.cell 10
  simp at c0 c1 c2 c3 c4 c5 c6 c7 c8 c9 c10
  have f0 := hB.frozen 0
  have f1 := hB.frozen 1
  have f2 := hB.frozen 2
  have f3 := hB.frozen 3
  have f4 := hB.frozen 4
  have f5 := hB.frozen 5
  have f6 := hB.frozen 6
  have f7 := hB.frozen 7
  have f8 := hB.frozen 8
  have f9 := hB.frozen 9
  have f10 := hB.frozen 10
  have hO1 : (w.drew.alloc (.cells #[.string (strB next), .int .u8 10, .int .i32 0, .string (strB t), .string ⟨#[]⟩] 62)).ownsRow base 62 5 (.slice A ls.length c) ls.length (linesL ls) := hO.drew'.alloc _
  have b1 : Blk (w.drew.alloc (.cells #[.string (strB next), .int .u8 10, .int .i32 0, .string (strB t), .string ⟨#[]⟩] 62)) w.heap.size 62 #[.string (strB next), .int .u8 10, .int .i32 0, .string (strB t), .string ⟨#[]⟩] := Blk.new w.drew _ _
  have hz1' : base ≤ (w.drew.alloc (.cells #[.string (strB next), .int .u8 10, .int .i32 0, .string (strB t), .string ⟨#[]⟩] 62)).heap.size := by simp; omega
  have hl1 : ls.length + 1 ≤ 1099511627776 := by omega
  have hl2 : (ls.length + 1) * 56 ≤ 140737488355328 := by omega
  have hone : ∀ u ∈ (#[.string (strB next), .int .u8 10, .int .i32 0, .string (strB t), .string ⟨#[]⟩] : Array Value).toList, u.oneCell' = true := by simp [Value.oneCell']
  have HO1 := Lib.hid hO1
  have HB1 := Lib.hid b1
  clear hB hO hO1 b1
  go_enter Tryz.func63, Tryz.ntmps63
  go_wp2
  go_region_law (refine step_app_own Tryz.underlying41 hi0 hz0 hz1 hz2 rfl (by decide) HO1.out hz1' rfl (.tmp 8) (.tmp 15) rfl rfl w.heap.size 1 1 #[.string (strB next), .int .u8 10, .int .i32 0, .string (strB t), .string ⟨#[]⟩] rfl HB1.out rfl hone hl1 hl2 ?_
                 intro v3 w3 ho3 hg3 hb3 hat3
                 obtain ⟨A3, c3, rfl⟩ := own_form ho3
                 have b3 := Blk.grown (HB.out.drew.alloc _) hg3 (fun e => own_blk_ne HO1.out (HB.out.drew.alloc _) (by decide) e.symm)
                 simp only [EmL.cells] at b3
                 have e8 := b3.cell 8
                 have f8 := b3.frozen 8
                 have e10 := b3.cell 10
                 have f10 := b3.frozen 10
                 have l3 := b3.lt
                 simp at e8 e10
                 have HE := Lib.hid (em_end (x := ⟨next, 10, 0, t, []⟩) h1 (HB.out.drew.alloc _) HO1.out (EmK.of_below ((Below.refl _ _).drew.alloc (Nat.le_refl _) _) hbs) ho3 hg3)
                 clear ho3 hg3 hb3 hat3 b3)
  all_goals
    go_wp2
    go_end0
    exact ⟨rfl, HE.out.1, HE.out.2⟩
end Go.Proofs.YtbefmlioampgcaaGreatDoor

/- space.Var, and the maximum of numbers, walked. -/
namespace Go.Proofs.YtbefmlioampgcaaGreatDoor
open Go.RowKit
set_option linter.unusedVariables false
set_option linter.unusedSimpArgs false

/-- Where a variable lies. -/
def varL (s : SpL) (frame v : Int) : Option Int := searchL s.fr frame v s.vat s.vin
set_option maxRecDepth 100000 in
set_option maxHeartbeats 4000000 in
theorem sVar (s : SpL) (frame v : Int) (B : Nat) (w : World) (hi : s.In w B) (hB : B ≤ w.heap.size) (hf : i64ok frame) (hv : i64ok v) :
    Calls Tryz.prog 39 #[.agg s.cells, .int .i64 frame, .int .i64 v] w (RetV (spotV (varL s frame v)) w) := by
  obtain ⟨W0, hW0⟩ : ∃ W, w.alloc (.cells s.cells 32) = W := ⟨_, rfl⟩
  have K0 : Hid (Below w.heap.size w W0) := Lib.hid (by rw [← hW0]; exact (Below.refl _ _).alloc (Nat.le_refl _) _)
  have b0 : Blk W0 w.heap.size 32 s.cells := by rw [← hW0]; exact Blk.new _ _ _
  have hi0 := hi.below (K0.out.mono hB)
  have HC := Lib.hid (sSearch s frame v s.A1 s.c1 s.vat s.A2 s.c2 s.vin B W0 hi0 hi0.2.1 hi0.2.2.1 (Nat.le_trans hB K0.out.size) hf hv)
  have HQ : Hid (varL s frame v = searchL s.fr frame v s.vat s.vin) := Lib.hid rfl
  generalize varL s frame v = R at *
  generalize searchL s.fr frame v s.vat s.vin = R2 at *
  obtain rfl := HQ.out
  simp only [SpL.cells] at b0 hW0 HC ⊢
  unfold spotV at HC ⊢
  have c0 := b0.cell 0
  have c1 := b0.cell 1
  have c2 := b0.cell 2
  have c3 := b0.cell 3
  have c4 := b0.cell 4
  simp at c0 c1 c2 c3 c4
  have hwl := b0.lt
  clear b0 hi hB hf hv hi0 HQ
  go_enter Tryz.func39, Tryz.ntmps39
  go_wp2_with first
    | (go_at_call 61; (with_reducible refine HC.out.mono ?_); rintro e w1 ⟨rfl, hb1⟩)
  go_ret2
  exact ⟨rfl, K0.out.trans (hb1.mono K0.out.size)⟩
/-- The maximum of some numbers. -/
def topL (a : Int) (l : List Int) : Int := l.foldl (fun a b => max a b) a
theorem topL_snoc (a : Int) (l : List Int) (b : Int) : topL a (l ++ [b]) = max (topL a l) b := by simp [topL]
set_option maxRecDepth 100000 in
set_option maxHeartbeats 4000000 in
theorem dTop (a : Int) (A : Option Addr) (c : Nat) (l : List Int) (B : Nat) (w : World) (h : intsIn w B A l) :
    Calls Tryz.prog 90 #[.int .i64 a, .slice A l.length c] w (RetQ (.int .i64 (topL a l)) w) := by
  have HI := Lib.hid h
  have hl := h.1
  unfold lenOk at hl
  obtain ⟨n, hn⟩ : ∃ n, l.length = n := ⟨_, rfl⟩
  have HN := Lib.hid hn
  rw [hn] at hl ⊢
  clear h hn
  go_enter Tryz.func90, Tryz.ntmps90
  go_wp2
  go_loopw [0, 9] (fun x i wr => ∃ k : Nat, k ≤ n ∧ x = .int .i64 (topL a (l.take k)) ∧ i = .int .i64 k ∧ wr = w) (fun _ i _ => n - (intOf i).toNat)
  case atStart => exact ⟨0, by omega, by simp [topL], rfl, rfl⟩
  case round =>
    obtain ⟨k, hk, rfl, rfl, rfl⟩ := hrel
    by_cases hlt : k < n
    · have hltI : (k : Int) < n := by omega
      obtain ⟨b, off, v, rfl, hb, hv, -, cv⟩ := ints_at HI.out (k := k) (by rw [HN.out]; exact hlt)
      have HS : Hid (topL a (l.take (k + 1)) = max (topL a (l.take k)) v) := Lib.hid (by rw [List.take_add_one, hv]; exact topL_snoc _ _ _)
      generalize topL a (l.take k) = t at *
      clear hv
      go_wp2
      all_goals
        go_roundw
        case rel => exact ⟨k + 1, by omega, by rw [HS.out] <;> (congr 1; omega), by go_num, by first | trivial | rfl⟩
        case measure => simp [intOf]; omega
    · have hltI : ¬ (k : Int) < n := by omega
      obtain rfl : n = k := by omega
      rw [List.take_of_length_le (by rw [HN.out]; exact Nat.le_refl _)]
      go_wp2
      go_ret
      exact ⟨rfl, rfl⟩
end Go.Proofs.YtbefmlioampgcaaGreatDoor
