/- Texts that belong together, joined: what each one holds is told ahead of it. -/
import Derived.Test.YtbefmlioampgcaaGreatDoorHK20
import Derived.Test.YtbefmlioampgcaaGreatDoorHCF
set_option linter.unusedVariables false
set_option linter.unusedSimpArgs false
/- The document's example of chapter 25: its space, and head, walked. -/
namespace Go.Proofs.YtbefmlioampgcaaGreatDoor
open Go.RowKit
set_option linter.unusedVariables false
set_option linter.unusedSimpArgs false

/-- A block as a row of what it holds. -/
theorem Reads.of_blk {w : World} {g t size n B : Nat} {cs : Array Value} (h : Blk w g t cs) (hl : cs.size = n * size) (hg : g < B) : Reads w B size (some ⟨g, 0, none⟩) n cs.toList := by
  refine ⟨by simpa using hl, fun _ => ⟨_, rfl, hg, fun j u hu => ?_⟩⟩
  rw [Addr.add_lit, h.cell]
  simpa using hu
/-- The example's variables and space, at their blocks. -/
def spG (a1 a2 a3 a4 : Nat) : EmL where
  Av := some ⟨a1, 0, none⟩
  cv := 2
  vars := [⟨1, 0⟩, ⟨1, 4⟩]
  s := { Af := some ⟨a2, 0, none⟩, cf := 1, fr := [⟨-1, 0, 40, 5, 20⟩], A1 := some ⟨a3, 0, none⟩, c1 := 2, vat := [3, 5], A2 := some ⟨a4, 0, none⟩, c2 := 2, vin := [0, 0], A3 := none, c3 := 0, cat := [], A4 := none, c4 := 0, cin := [] }
  frame := 0
  label := [76]
def exG (ax : Nat) : KE := ⟨3, 0, 0, 0, 1, some ⟨ax, 0, none⟩, 1, [⟨2, 0, 0, 0, 0, none, 0, []⟩]⟩
def lnG : List LineL := [lnF 7 3, lnF 4 4, lnO 19, lnO 41, lnJ stopT, lnF 1 5, lnO 10, lnF 3 0]
theorem exG_err (a1 a2 a3 a4 ax : Nat) : errC (spG a1 a2 a3 a4) (exG ax) 20 = 0 := by kernel_rfl
theorem exG_code (a1 a2 a3 a4 ax : Nat) : codeE (spG a1 a2 a3 a4).env (exG ax) 20 0 = (lnG, 0) := by kernel_rfl
def wsG (x : Int) : List Int := [0, 0, 0, x, 0, 0, 0, 9, 0, 0, 0, 0, 0, 0, 0, 0, 0, 0, 0, 0, 0, 0, 0, 0, 0, 0, 0, 0, 0, 0]
theorem exG_run1 : runQ lnG (wsG 2) = (9, false, 0) := by decide +kernel
theorem exG_run2 : runQ lnG (wsG 4) = (0, true, 0) := by decide +kernel
def RetSp (w : World) (e : Ending) (w' : World) : Prop := Below w.heap.size w w' ∧ ∃ a1 a2 a3 a4 : Nat,
  e = .returned (.tuple #[.slice (some ⟨a1, 0, none⟩) 2 2, .agg #[.slice (some ⟨a2, 0, none⟩) 1 1, .slice (some ⟨a3, 0, none⟩) 2 2, .slice (some ⟨a4, 0, none⟩) 2 2, .slice none 0 0, .slice none 0 0]]) ∧ EnvIn0 (spG a1 a2 a3 a4) w' w'.heap.size
theorem results_tmp_cell {P : Program} {fn : Func} {s p : Tmp} {ty : TypeId} (h : fn.results = #[.tmp s, .cell p ty]) (tmps : Array Value) (w : World) (g : Nat) (t : TypeId) (cs : Array Value) (fr : Nat × Nat) (d : TypeDesc)
    (hp : tmps.getD p undef = .pointer (some ⟨g, 0, none⟩)) (hg : w.heap[g]? = some (.cells cs t fr))
    (hu : P.underlying ty = some d) (hd : (match d with | .struct _ | .array _ _ => true | _ => false) = true) (hi : (P.info? ty).map (·.size) = some cs.size) :
    (results fn tmps).run P w = .ok (.tuple #[tmps.getD s undef, .agg cs]) w := by
  have hp' : tmps[p]?.getD undef = .pointer (some ⟨g, 0, none⟩) := by simpa using hp
  simp [results, h, hp', asAddr, run_loadVar_row w g t ty cs fr d hg hu hd hi]
theorem sp_ret {fn : Func} {s : Tmp} {P : Program} {tmps : Array Value} {W : World} {cs : Array Value} (v0 : Value) (hres : (results fn tmps).run P W = .ok (.tuple #[tmps.getD s undef, .agg cs]) W) (hs : tmps.getD s undef = v0) {post : Ending → World → Prop} (hpost : post (.returned (.tuple #[v0, .agg cs])) W) :
    bodyPost P fn post Exit.ret { tmps := tmps, defers := [] } W := by
  subst hs
  exact bodyPost_ret (v := .tuple #[tmps.getD s undef, .agg cs]) hres rfl hpost
theorem space_size : (Tryz.prog.info? 32).map (·.size) = some 5 := by kernel_rfl
theorem envIn_spG {w' : World} {a1 a2 a3 a4 : Nat} (b1 : Blk w' a1 67 #[.int .u8 1, .int .i64 0, .int .u8 1, .int .i64 4]) (b2 : Blk w' a2 88 #[.int .i64 (-1), .int .i64 0, .int .i64 40, .int .i64 5, .int .i64 20])
    (b3 : Blk w' a3 3 #[.int .i64 3, .int .i64 5]) (b4 : Blk w' a4 3 #[.int .i64 0, .int .i64 0]) : EnvIn0 (spG a1 a2 a3 a4) w' w'.heap.size := by
  have hn : intsIn w' w'.heap.size none [] := ⟨by simp [lenOk], Reads.none_, by simp⟩
  refine ⟨⟨⟨by simp [lenOk, spG], Reads.of_blk b2 rfl b2.lt, ?_⟩, ⟨by simp [lenOk, spG], Reads.of_blk b3 rfl b3.lt, ?_⟩, ⟨by simp [lenOk, spG], Reads.of_blk b4 rfl b4.lt, ?_⟩, hn, hn⟩, ⟨by simp [lenOk, spG], Reads.of_blk b1 rfl b1.lt, ?_⟩, ?_, by simp [spG]⟩
  · intro x hx
    simp [spG] at hx
    subst hx
    simp [FrL.Ok, i64ok]
  · intro x hx
    simp [spG] at hx
    rcases hx with rfl | rfl <;> simp [i64ok]
  · intro x hx
    simp [spG] at hx
    subst hx
    simp [i64ok]
  · intro x hx
    simp [spG] at hx
    rcases hx with rfl | rfl <;> simp [i64ok]
  · simp [spG, i64ok]
theorem blk_5 (w : World) (o o' o'' o3 : Obj) (t : TypeId) (cs : Array Value) : Blk (((((w.alloc o).alloc o').alloc o'').alloc o3).alloc (.cells cs t)) (w.heap.size + 1 + 1 + 1 + 1) t cs := by
  have := blk_4 (w.alloc o) o' o'' o3 t cs
  simpa using this
set_option maxRecDepth 100000 in
set_option maxHeartbeats 4000000 in
theorem lSpace (w : World) : Calls Tryz.prog 18 #[] w (RetSp w) := by
  go_enter Tryz.func18, Tryz.ntmps18
  go_wp2
  have b0 : Blk _ w.heap.size 32 #[.slice (some ⟨w.heap.size + 1 + 1, 0, none⟩) 1 1, .slice (some ⟨w.heap.size + 1 + 1 + 1, 0, none⟩) 2 2, .slice (some ⟨w.heap.size + 1 + 1 + 1 + 1, 0, none⟩) 2 2, .slice none 0 0, .slice none 0 0] :=
    ((((Blk.new w _ _).alloc (.cells #[.int .u8 1, .int .i64 0, .int .u8 1, .int .i64 4] 67)).alloc (.cells #[.int .i64 (-1), .int .i64 0, .int .i64 40, .int .i64 5, .int .i64 20] 88)).alloc (.cells #[.int .i64 3, .int .i64 5] 3)).alloc (.cells #[.int .i64 0, .int .i64 0] 3)
  refine sp_ret (.slice (some ⟨w.heap.size + 1, 0, none⟩) 2 2) (results_tmp_cell rfl _ _ w.heap.size _ _ (0, 0) _ rfl b0 Tryz.underlying32 rfl space_size) rfl ⟨?_, w.heap.size + 1, w.heap.size + 1 + 1, w.heap.size + 1 + 1 + 1, w.heap.size + 1 + 1 + 1 + 1, rfl, ?_⟩
  · exact (((below_2 w _ _).alloc (by simp; omega) _).alloc (by simp; omega) _).alloc (by simp; omega) _
  · exact envIn_spG (((blk_2 w _ _ _).alloc _).alloc _ |>.alloc _) (((blk_3 w _ _ _ _).alloc _).alloc _) ((blk_4 w _ _ _ _ _).alloc _) (blk_5 w _ _ _ _ _ _)
theorem lnG_ok : ∀ x ∈ lnG, LOk x := by
  intro x hx
  simp only [lnG, List.mem_cons, List.not_mem_nil, or_false] at hx
  rcases hx with rfl | rfl | rfl | rfl | rfl | rfl | rfl | rfl
  all_goals exact ⟨by decide, by simp [is32, lnF, lnO, lnJ], by decide, by decide, by decide⟩
theorem wsG_ok (x : Int) (hx : is32 x) : ∀ v ∈ wsG x, is32 v := by
  intro v hv
  simp only [wsG, List.mem_cons, List.not_mem_nil, or_false] at hv
  unfold is32 at *
  omega
def zG (x : Int) : Array Value := #[.int .i32 0, .int .i32 0, .int .i32 0, .int .i32 x, .int .i32 0, .int .i32 0, .int .i32 0, .int .i32 9, .int .i32 0, .int .i32 0, .int .i32 0, .int .i32 0, .int .i32 0, .int .i32 0, .int .i32 0, .int .i32 0, .int .i32 0, .int .i32 0, .int .i32 0, .int .i32 0, .int .i32 0, .int .i32 0, .int .i32 0, .int .i32 0, .int .i32 0, .int .i32 0, .int .i32 0, .int .i32 0, .int .i32 0, .int .i32 0]
theorem runG {W : World} {gb g2 c base : Nat} {x : Int} (hx : is32 x) (hown : W.ownsRow base 62 5 (.slice (some ⟨gb, 0, none⟩) 8 c) 8 (linesL lnG)) (hb : Blk W g2 21 (zG x)) :
    Calls Tryz.prog 8 #[.slice (some ⟨gb, 0, none⟩) 8 c, .slice (some ⟨g2, 0, none⟩) 30 30] W (RetV (runV (runQ lnG (wsG x))) W) :=
  wRun lnG lnG_ok (some ⟨gb, 0, none⟩) 8 c (by omega) (wsG x) (wsG_ok x hx) (some ⟨g2, 0, none⟩) 30 30 rfl (by omega) W (Reads.of_own hown) (Reads.of_blk hb rfl hb.lt)
theorem own_far {w : World} {base e size n : Nat} {v : Value} {xs : List Value} (h : w.ownsRow base e size v n xs) {p : Addr} (hp : v.ownBlock ≠ some p.block) (u : Value) : (w.setCell p u).ownsRow base e size v n xs := by
  refine ⟨h.1, ?_⟩
  rcases h.2 with hn | ⟨b, cap, cur, rfl, hb', hgg, rest⟩
  · exact .inl hn
  · refine .inr ⟨b, cap, cur, rfl, hb', ?_, rest⟩
    rw [Below.heap_setCell w p u b (by rintro rfl; exact hp rfl)]
    exact hgg
/-- The two runs of head. -/
theorem runs_of {W : World} {gb c base : Nat} (hown : W.ownsRow base 62 5 (.slice (some ⟨gb, 0, none⟩) 8 c) 8 (linesL lnG)) (hgl : gb < W.heap.size) :
    Calls Tryz.prog 8 #[.slice (some ⟨gb, 0, none⟩) 8 c, .slice (some ⟨W.heap.size, 0, none⟩) 30 30] (W.alloc (.cells (zG 2) 21)) (RetV (.tuple #[.int .i32 9, .bool false, .int .i64 0]) (W.alloc (.cells (zG 2) 21))) ∧
    ∀ w6, Below (W.alloc (.cells (zG 2) 21)).heap.size (W.alloc (.cells (zG 2) 21)) w6 → Calls Tryz.prog 8 #[.slice (some ⟨gb, 0, none⟩) 8 c, .slice (some ⟨W.heap.size, 0, none⟩) 30 30] (w6.setCell ⟨W.heap.size, 3, none⟩ (.int .i32 4)) (RetV (.tuple #[.int .i32 0, .bool true, .int .i64 0]) (w6.setCell ⟨W.heap.size, 3, none⟩ (.int .i32 4))) := by
  constructor
  · have := runG (x := 2) (by simp [is32]) (hown.alloc (.cells (zG 2) 21)) (Blk.new W _ _)
    rw [exG_run1] at this
    exact this
  · intro w6 hb
    have h1 := (hown.alloc (.cells (zG 2) 21)).below hb
    have h2 := own_far h1 (p := ⟨W.heap.size, 3, none⟩) (by simp [Value.ownBlock]; omega) (.int .i32 4)
    have b1 := ((Blk.new W 21 (zG 2)).call hb).set_ 3 (.int .i32 4)
    have := runG (x := 4) (by simp [is32]) h2 b1
    rw [exG_run2] at this
    exact this
theorem LaidG.up {B C : Nat} {w : World} (h : LaidG B w) (hB : B ≤ C) : LaidG C w :=
  ⟨⟨fun w' hb => h.1.1 w' (hb.mono hB), fun w' hb => h.1.2 w' (hb.mono hB)⟩, fun w' hb => h.2.1 w' (hb.mono hB), Nat.lt_of_lt_of_le h.2.2.1 hB, h.2.2.2⟩
/-- head answers true. -/
theorem reads_flat {w : World} {base g n c : Nat} {ls : List LineL} (h : w.ownsRow base 62 5 (.slice (some ⟨g, 0, none⟩) n c) n (linesL ls)) : ∀ j u, (linesL ls)[j]? = some u → w.cell? ⟨g, j, none⟩ = some u := fun j u hu => by
  have := h.cells (g := g) rfl j u hu
  rw [Addr.add_lit] at this
  simpa using this
set_option maxRecDepth 100000 in
set_option maxHeartbeats 4000000 in
theorem lHead (B : Nat) (w : World) (hL : LaidG B w) (hB : B ≤ w.heap.size) : Calls Tryz.prog 6 #[] w (RetV (.bool true) w) := by
  obtain ⟨i0, hi0, hz0, hz1, hz2⟩ := info_parts i32_info
  have mk1 : (∀ W : World, (Instr.makeSlice 36 (.int .i64 30) (.int .i64 30)).run Tryz.prog W = .ok (.slice (some ⟨W.heap.size, 0, none⟩) 30 30) (W.alloc (.cells #[.int .i32 0, .int .i32 0, .int .i32 0, .int .i32 0, .int .i32 0, .int .i32 0, .int .i32 0, .int .i32 0, .int .i32 0, .int .i32 0, .int .i32 0, .int .i32 0, .int .i32 0, .int .i32 0, .int .i32 0, .int .i32 0, .int .i32 0, .int .i32 0, .int .i32 0, .int .i32 0, .int .i32 0, .int .i32 0, .int .i32 0, .int .i32 0, .int .i32 0, .int .i32 0, .int .i32 0, .int .i32 0, .int .i32 0, .int .i32 0] 21))) := fun W => by
    have := run_make_rowN (P := Tryz.prog) 36 21 i0 _ Tryz.underlying36 hi0 hz0 .i64 .i64 30 30 (Nat.le_refl _) (by rw [hz2]; omega) (by omega) W
    rw [hz1, show madeCells (Value.int .i32 0).cells (30 * 1) = #[.int .i32 0, .int .i32 0, .int .i32 0, .int .i32 0, .int .i32 0, .int .i32 0, .int .i32 0, .int .i32 0, .int .i32 0, .int .i32 0, .int .i32 0, .int .i32 0, .int .i32 0, .int .i32 0, .int .i32 0, .int .i32 0, .int .i32 0, .int .i32 0, .int .i32 0, .int .i32 0, .int .i32 0, .int .i32 0, .int .i32 0, .int .i32 0, .int .i32 0, .int .i32 0, .int .i32 0, .int .i32 0, .int .i32 0, .int .i32 0] by kernel_rfl] at this
    exact this
  have HS := Lib.hid (lSpace w)
  have HLG := Lib.hid hL
  clear hL hi0 hz0 hz1 hz2
  unfold RetSp at HS
  go_enter Tryz.func6, Tryz.ntmps6
  have hst : ((⟨#[115, 116, 111, 112]⟩ : ByteArray).toList == [115, 116, 111, 112]) = true := by rw [ByteArray.toList_eq]; rfl
  go_upto_region 3 with (go_at_call 18; (with_reducible refine HS.out.mono ?_); rintro e w1 ⟨hb1, a1, a2, a3, a4, rfl, hen⟩
                         have K1 := Lib.hid hb1
                         have HEN := Lib.hid hen
                         clear hb1 hen)
  obtain ⟨W2, hW2⟩ : ∃ W, (w1.alloc (.cells #[.slice (some ⟨a2, 0, none⟩) 1 1, .slice (some ⟨a3, 0, none⟩) 2 2, .slice (some ⟨a4, 0, none⟩) 2 2, .slice none 0 0, .slice none 0 0] 32)).alloc (.cells #[.int .u8 2, .int .u8 0, .int .u8 0, .int .i32 0, .int .i64 0, .slice none 0 0] 27) = W := ⟨_, rfl⟩
  have k2 : Below w1.heap.size w1 W2 := by rw [← hW2]; exact below_2 w1 _ _
  have b2 : Blk W2 w1.heap.size 32 #[.slice (some ⟨a2, 0, none⟩) 1 1, .slice (some ⟨a3, 0, none⟩) 2 2, .slice (some ⟨a4, 0, none⟩) 2 2, .slice none 0 0, .slice none 0 0] := by rw [← hW2]; exact (Blk.new w1 _ _).alloc _
  have b3 : Blk W2 (w1.heap.size + 1) 27 #[.int .u8 2, .int .u8 0, .int .u8 0, .int .i32 0, .int .i64 0, .slice none 0 0] := by rw [← hW2]; exact blk_2 w1 _ _ _
  rw [hW2]
  have c0 := b2.cell 0
  have c1 := b2.cell 1
  have c2 := b2.cell 2
  have c3 := b2.cell 3
  have c4 := b2.cell 4
  simp at c0 c1 c2 c3 c4
  have d0 := b3.cell 0
  have d1 := b3.cell 1
  have d2 := b3.cell 2
  have d3 := b3.cell 3
  have d4 := b3.cell 4
  have d5 := b3.cell 5
  simp at d0 d1 d2 d3 d4 d5
  obtain ⟨W3, hW3⟩ : ∃ W, W2.alloc (.cells #[.int .u8 2, .int .u8 0, .int .u8 0, .int .i32 0, .int .i64 0, .slice none 0 0] 27) = W := ⟨_, rfl⟩
  have k3 : Below W2.heap.size W2 W3 := by rw [← hW3]; exact (Below.refl _ _).alloc (Nat.le_refl _) _
  have b4 : Blk W3 W2.heap.size 27 #[.int .u8 2, .int .u8 0, .int .u8 0, .int .i32 0, .int .i64 0, .slice none 0 0] := by rw [← hW3]; exact Blk.new W2 _ _
  have k13 : Below w1.heap.size w1 W3 := k2.trans (k3.mono k2.size)
  have kw3 : Below w.heap.size w W3 := K1.out.trans (k13.mono K1.out.size)
  have hin : (exG W2.heap.size).In W3 W3.heap.size := by
    refine KE.all_iff.2 ⟨⟨⟨by simp [exG], by simp [exG], by simp [exG], by simp [exG, i32ok], by simp [exG, i64ok], by simp [exG, lenOk]⟩, Reads.of_blk b4 rfl b4.lt⟩, fun x hx => ?_⟩
    simp [exG] at hx
    subst hx
    exact KE.all_iff.2 ⟨⟨⟨by simp, by simp, by simp, by simp [i32ok], by simp [i64ok], by simp [lenOk]⟩, Reads.none_⟩, fun x hx => by cases hx⟩
  have hen3 : EnvIn0 (spG a1 a2 a3 a4) W3 W3.heap.size := by
    obtain ⟨q1, q2, q3, q4⟩ := HEN.out
    have hm := k13.size
    refine ⟨?_, ⟨q2.1, (q2.2.1.below k13).more hm, q2.2.2⟩, q3, q4⟩
    have q1' := q1.below k13
    exact ⟨⟨q1'.1.1, q1'.1.2.1.more hm, q1'.1.2.2⟩, ⟨q1'.2.1.1, q1'.2.1.2.1.more hm, q1'.2.1.2.2⟩, ⟨q1'.2.2.1.1, q1'.2.2.1.2.1.more hm, q1'.2.2.1.2.2⟩, ⟨q1'.2.2.2.1.1, q1'.2.2.2.1.2.1.more hm, q1'.2.2.2.1.2.2⟩, ⟨q1'.2.2.2.2.1, q1'.2.2.2.2.2.1.more hm, q1'.2.2.2.2.2.2⟩⟩
  have hlg3 : LaidG W3.heap.size W3 := (HLG.out.on (kw3.mono hB)).up (Nat.le_trans hB kw3.size)
  have hcode := gGenCode (spG a1 a2 a3 a4) (exG W2.heap.size) 20 W3.heap.size W3 hin hen3 hlg3 (Nat.le_refl _) (by unfold i64ok; omega)
  have HCO : Hid (Calls Tryz.prog 7 #[.agg #[.int .u8 3, .int .u8 0, .int .u8 0, .int .i32 0, .int .i64 1, .slice (some ⟨W2.heap.size, 0, none⟩) 1 1], .slice (some ⟨a1, 0, none⟩) 2 2, .agg #[.slice (some ⟨a2, 0, none⟩) 1 1, .slice (some ⟨a3, 0, none⟩) 2 2, .slice (some ⟨a4, 0, none⟩) 2 2, .slice none 0 0, .slice none 0 0], .int .i64 0, .int .i64 20, .string ⟨#[76]⟩] W3
      (fun e w' => Below W3.heap.size W3 w' ∧ ∃ A c, e = .returned (.tuple #[.slice A 8 c, .int .i64 0]) ∧ w'.ownsRow W3.heap.size 62 5 (.slice A 8 c) 8 (linesL lnG))) := Lib.hid (hcode.mono fun e w' h => by
    obtain ⟨h1, h | ⟨-, A, c, h2, h3⟩⟩ := h
    · exact absurd (exG_err a1 a2 a3 a4 W2.heap.size) h.1
    · rw [exG_code] at h2 h3
      exact ⟨h1, A, c, h2, h3⟩)
  have b23 := b2.call k3
  have x0 := b23.cell 0
  have x1 := b23.cell 1
  have x2 := b23.cell 2
  have x3 := b23.cell 3
  have x4 := b23.cell 4
  simp at x0 x1 x2 x3 x4
  have z2 := b2.lt
  have z3 := b3.lt
  have z23 := b23.lt
  clear hcode hin hen3 hlg3 b2 b3 b4 k2 k3 k13 b23
  have KW3 := Lib.hid kw3
  clear kw3
  clear hW2
  go_wp2_with first
    | (go_at_call 7; (with_reducible refine HCO.out.mono ?_); rintro e5 w5 ⟨hb5, A, c, rfl, hown⟩
       obtain ⟨gb, cap, hv, hgb, hgl⟩ := ownsRow_pos hown (by decide)
       injection hv with hv1 hv2 hv3
       subst hv1
       have K5 := Lib.hid hb5
       have HO5 := Lib.hid hown
       have l17 : w5.cell? ⟨gb, 17, none⟩ = some (.int .i32 41) := reads_flat hown 17 _ rfl
       have l23 : w5.cell? ⟨gb, 23, none⟩ = some (.string ⟨#[115, 116, 111, 112]⟩) := reads_flat hown 23 _ rfl
       have l27 : w5.cell? ⟨gb, 27, none⟩ = some (.int .i32 5) := reads_flat hown 27 _ rfl
       obtain ⟨r1, r2⟩ := runs_of hown hgl
       have HR1 := Lib.hid r1
       have HR2 := Lib.hid r2
       simp only [zG] at HR1 HR2
       clear hb5 hown hv2 hv3 r1 r2)
    | (go_at_call 8; (with_reducible refine HR1.out.mono ?_); rintro e6 w6 ⟨rfl, hb6⟩
       have k6 := (Blk.new w5 21 (zG 2)).call hb6
       have k60 := k6.cell 3
       have k61 := k6.frozen 3
       simp [zG] at k60
       have k62 := k6.lt
       have K6 := Lib.hid hb6
       clear k6 hb6)
    | (go_at_call 8; (with_reducible refine (HR2.out _ K6.out).mono ?_); rintro e7 w7 ⟨rfl, hb7⟩
       have K7 := Lib.hid hb7
       clear hb7)
  go_ret
  have kA := KW3.out.trans (K5.out.mono KW3.out.size)
  have kB := (kA.alloc kA.size _).trans (K6.out.mono (by have := kA.size; simp; omega))
  have kC := kB.setCell (p := ⟨w5.heap.size, 3, none⟩) kA.size (.int .i32 4)
  exact ⟨rfl, kC.trans (K7.out.mono kC.size)⟩
end Go.Proofs.YtbefmlioampgcaaGreatDoor
