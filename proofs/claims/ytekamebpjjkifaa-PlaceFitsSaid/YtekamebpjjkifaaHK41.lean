/- Texts that belong together, joined: what each one holds is told ahead of it. -/
import Derived.Test.YtekamebpjjkifaaHK40
/- Where the host's channels go: hosted, walked. -/
namespace Go.Proofs.Ytekamebpjjkifaa
open Go.RowKit
set_option linter.unusedSimpArgs false
set_option linter.unusedVariables false

/-- A placing: the channel, the ports. -/
structure Plc where
  c : Int
  o : Int × Int
  i : Int × Int
deriving DecidableEq
def Plc.cells (x : Plc) : Array Value := #[.int .i64 x.c, .int .i64 x.o.1, .int .i64 x.o.2, .int .i64 x.i.1, .int .i64 x.i.2]
def plcZ : Plc := ⟨0, (0, 0), (0, 0)⟩
/-- What hosted answers. -/
def hostQ (k : KK) (t : TN) (x : Int × Int × Int) : Plc × Bool × Bool :=
  if x.2.1 < 0 then (⟨x.1, (-1, 0), (t.hn, t.hl)⟩, true, decide (nodeI k t x.2.2.toNat = t.hn))
  else if x.2.2 < 0 then (⟨x.1, (t.hn, t.hl), (-1, 0)⟩, true, decide (nodeI k t x.2.1.toNat = t.hn))
  else (plcZ, false, true)
theorem results_cell_tmp2 {P : Program} {fn : Func} {p u v : Tmp} {ty : TypeId} (h : fn.results = #[.cell p ty, .tmp u, .tmp v]) (tmps : Array Value) (w : World) {a : Addr} {v1 v2 v3 : Value} (hp : tmps.getD p undef = .pointer (some a)) (hu : tmps.getD u undef = v2) (hv : tmps.getD v undef = v3)
    (h1 : (loadVar ty a).run P w = .ok v1 w) : (results fn tmps).run P w = .ok (.tuple #[v1, v2, v3]) w := by
  have hp' : tmps[p]?.getD undef = .pointer (some a) := by simpa using hp
  have hu' : tmps[u]?.getD undef = v2 := by simpa using hu
  have hv' : tmps[v]?.getD undef = v3 := by simpa using hv
  simp only [results, h]
  simp [Sem.run_bind, Result.andThen, hp', hu', hv', asAddr, h1]
/-- A branch that is one. -/
def isBr (k : KK) (b : Int) : Prop := 0 ≤ b ∧ (k.procs.length = 0 ∨ b < k.procs.length)
theorem pNode' (k : KK) (t : TN) (b : Int) (hb : isBr k b) (B : Nat) (w : World) (hk : k.In w B) (hB : B ≤ w.heap.size) :
    Calls Try.prog 26 #[.agg k.flat, .agg t.flat, .int .i64 b] w (RetV (.int .i64 (nodeI k t b.toNat)) w) := by
  obtain ⟨n, rfl⟩ := Int.eq_ofNat_of_zero_le hb.1
  have h2 : k.procs.length = 0 ∨ n < k.procs.length := hb.2.imp id (fun h => by omega)
  exact pNode k t n h2 B w hk hB
set_option maxRecDepth 100000 in
set_option maxHeartbeats 8000000 in
theorem pHosted_in (k : KK) (t : TN) (x y z : Int) (h1 : y < 0) (hb : isBr k z) (B : Nat) (w : World) (hk : k.In w B) (hB : B ≤ w.heap.size) :
    Calls Try.prog 24 #[.agg k.flat, .agg t.flat, .agg #[.int .i64 x, .int .i64 y, .int .i64 z]] w (RetV (.tuple #[.agg (Plc.cells ⟨x, (-1, 0), (t.hn, t.hl)⟩), .bool true, .bool (decide (nodeI k t z.toNat = t.hn))]) w) := by
  obtain ⟨W3, hW3⟩ : ∃ W, ((w.alloc (.cells k.flat 34)).alloc (.cells t.flat 40)).alloc (.cells #[.int .i64 x, .int .i64 y, .int .i64 z] 57) = W := ⟨_, rfl⟩
  obtain ⟨l1, l2, l3, l4⟩ := lay3 w k.flat t.flat #[.int .i64 x, .int .i64 y, .int .i64 z] 34 40 57
  have hz3 : W3.heap.size = w.heap.size + 3 := by rw [← hW3]; simp
  rw [hW3] at l1 l2 l3 l4
  obtain ⟨W4, hW4⟩ : ∃ W, W3.alloc (.cells #[.int .i64 0, .int .i64 0, .int .i64 0, .int .i64 0, .int .i64 0] 56) = W := ⟨_, rfl⟩
  have k34 : Below W3.heap.size W3 W4 := by rw [← hW4]; exact (Below.refl _ _).alloc (Nat.le_refl _) _
  have S4 : SBel W3 W4 := by rw [← hW4]; exact (SBel.refl W3).alloc _
  have b4 : Blk W4.drew W3.heap.size 56 #[.int .i64 0, .int .i64 0, .int .i64 0, .int .i64 0, .int .i64 0] := by rw [← hW4]; exact (Blk.new _ _ _).drew
  have m4 := l4.call k34
  have K4 := l1.trans (k34.mono l1.size)
  have HN := Lib.hid (fun w1 hb1 => pNode' k t z hb B w1 (hk.below ((K4.trans hb1).mono hB)) (Nat.le_trans hB (K4.trans hb1).size))
  have HK4 := Lib.hid K4
  have HB4 := Lib.hid b4
  simp only [KK.flat, TN.flat] at l2 l3 HN hW3 ⊢
  have e0 := l2.cell 0
  have e1 := l2.cell 1
  have e2 := l2.cell 2
  have e3 := l2.cell 3
  have e4 := l2.cell 4
  have e5 := l2.cell 5
  have e6 := l2.cell 6
  have e7 := l2.cell 7
  have e8 := l2.cell 8
  have e9 := l2.cell 9
  have e10 := l2.cell 10
  simp at e0 e1 e2 e3 e4 e5 e6 e7 e8 e9 e10
  have q0 := l3.cell 0
  have q1 := l3.cell 1
  have q2 := l3.cell 2
  have q3 := l3.cell 3
  simp at q0 q1 q2 q3
  have p0 := l4.cell 0
  have p1 := l4.cell 1
  have p2 := l4.cell 2
  simp at p0 p1 p2
  have r1 := m4.cell 1
  have r2 := m4.cell 2
  simp at r1 r2
  have g0 : w.heap.size < W3.heap.size := by omega
  have g1 : w.heap.size + 1 < W3.heap.size := by omega
  have g2 : w.heap.size + 1 + 1 < W3.heap.size := by omega
  have hbd : Below w.heap.size W4 W4.drew := ⟨rfl, rfl, rfl, Nat.le_refl _, fun _ _ => rfl⟩
  have S4d : SBel W3 W4.drew := S4
  have HZ3 := Lib.hid hz3
  clear l2 l3 m4 hk b4 K4 k34 l1 l4 hz3
  go_enter Try.func24, Try.ntmps24
  go_upto_region 2 with fail
  go_region_held3 (fun w' => W3.heap.size ≤ w'.heap.size ∧ ∀ b o, b < W3.heap.size → w'.cell? ⟨b, o, none⟩ = W3.cell? ⟨b, o, none⟩) (first | exact S4d | exact S4d.below hb1 | exact ((((((S4d.below hb1).set (by simp) _).set (by simp) _).set (by simp) _).set (by simp) _).set (by simp) _))
    (first
      | (go_at_call 26; (with_reducible refine (HN.out _ hbd).mono ?_); rintro e1 w1 ⟨rfl, hb1⟩
         have b5 := HB4.out.call hb1
         have f0 := b5.frozen 0
         have f1 := b5.frozen 1
         have f2 := b5.frozen 2
         have f3 := b5.frozen 3
         have f4 := b5.frozen 4
         have d0 := b5.cell 0
         have d1 := b5.cell 1
         have d2 := b5.cell 2
         have d3 := b5.cell 3
         have d4 := b5.cell 4
         simp at d0 d1 d2 d3 d4))
  have bF : Blk (((((w1.setCell ⟨W3.heap.size, 0, none⟩ (.int .i64 x)).setCell ⟨W3.heap.size, 1, none⟩ (.int .i64 (-1))).setCell ⟨W3.heap.size, 2, none⟩ (.int .i64 0)).setCell ⟨W3.heap.size, 3, none⟩ (.int .i64 t.hn)).setCell ⟨W3.heap.size, 4, none⟩ (.int .i64 t.hl)) W3.heap.size 56 (Plc.cells ⟨x, (-1, 0), (t.hn, t.hl)⟩) := (((((b5.set_ 0 _).set_ 1 _).set_ 2 _).set_ 3 _).set_ 4 _)
  have kF : Below w.heap.size w (((((w1.setCell ⟨W3.heap.size, 0, none⟩ (.int .i64 x)).setCell ⟨W3.heap.size, 1, none⟩ (.int .i64 (-1))).setCell ⟨W3.heap.size, 2, none⟩ (.int .i64 0)).setCell ⟨W3.heap.size, 3, none⟩ (.int .i64 t.hn)).setCell ⟨W3.heap.size, 4, none⟩ (.int .i64 t.hl)) := (((((HK4.out.trans (hbd.trans (hb1.mono HK4.out.size))).setCell (by simp; omega) _).setCell (by simp; omega) _).setCell (by simp; omega) _).setCell (by simp; omega) _).setCell (by simp; omega) _
  generalize ((((w1.setCell ⟨W3.heap.size, 0, none⟩ (.int .i64 x)).setCell ⟨W3.heap.size, 1, none⟩ (.int .i64 (-1))).setCell ⟨W3.heap.size, 2, none⟩ (.int .i64 0)).setCell ⟨W3.heap.size, 3, none⟩ (.int .i64 t.hn)).setCell ⟨W3.heap.size, 4, none⟩ (.int .i64 t.hl) = Wf at *
  have HBF := Lib.hid bF
  have HKF := Lib.hid kF
  clear bF kF f0 f1 f2 f3 f4 d0 d1 d2 d3 d4 b5 hb1
  go_wp2
  refine bodyPost_ret (v := .tuple #[.agg (Plc.cells ⟨x, (-1, 0), (t.hn, t.hl)⟩), .bool true, .bool (nodeI k t z.toNat == t.hn)]) (results_cell_tmp2 rfl _ _ rfl rfl rfl (run_loadVar_row Wf W3.heap.size _ _ _ (0, 0) _ HBF.out Try.underlying56 rfl (by kernel_rfl))) rfl ⟨?_, HKF.out⟩
  rw [show (nodeI k t z.toNat == t.hn) = decide (nodeI k t z.toNat = t.hn) from rfl]
set_option maxRecDepth 100000 in
set_option maxHeartbeats 8000000 in
theorem pHosted_out (k : KK) (t : TN) (x y z : Int) (h1 : ¬ y < 0) (h2 : z < 0) (hb : isBr k y) (B : Nat) (w : World) (hk : k.In w B) (hB : B ≤ w.heap.size) :
    Calls Try.prog 24 #[.agg k.flat, .agg t.flat, .agg #[.int .i64 x, .int .i64 y, .int .i64 z]] w (RetV (.tuple #[.agg (Plc.cells ⟨x, (t.hn, t.hl), (-1, 0)⟩), .bool true, .bool (decide (nodeI k t y.toNat = t.hn))]) w) := by
  obtain ⟨W3, hW3⟩ : ∃ W, ((w.alloc (.cells k.flat 34)).alloc (.cells t.flat 40)).alloc (.cells #[.int .i64 x, .int .i64 y, .int .i64 z] 57) = W := ⟨_, rfl⟩
  obtain ⟨l1, l2, l3, l4⟩ := lay3 w k.flat t.flat #[.int .i64 x, .int .i64 y, .int .i64 z] 34 40 57
  have hz3 : W3.heap.size = w.heap.size + 3 := by rw [← hW3]; simp
  rw [hW3] at l1 l2 l3 l4
  obtain ⟨W4, hW4⟩ : ∃ W, W3.alloc (.cells #[.int .i64 0, .int .i64 0, .int .i64 0, .int .i64 0, .int .i64 0] 56) = W := ⟨_, rfl⟩
  have k34 : Below W3.heap.size W3 W4 := by rw [← hW4]; exact (Below.refl _ _).alloc (Nat.le_refl _) _
  have S4 : SBel W3 W4 := by rw [← hW4]; exact (SBel.refl W3).alloc _
  have b4 : Blk W4.drew W3.heap.size 56 #[.int .i64 0, .int .i64 0, .int .i64 0, .int .i64 0, .int .i64 0] := by rw [← hW4]; exact (Blk.new _ _ _).drew
  have m4 := l4.call k34
  have K4 := l1.trans (k34.mono l1.size)
  have HN := Lib.hid (fun w1 hb1 => pNode' k t y hb B w1 (hk.below ((K4.trans hb1).mono hB)) (Nat.le_trans hB (K4.trans hb1).size))
  have HK4 := Lib.hid K4
  have HB4 := Lib.hid b4
  simp only [KK.flat, TN.flat] at l2 l3 HN hW3 ⊢
  have e0 := l2.cell 0
  have e1 := l2.cell 1
  have e2 := l2.cell 2
  have e3 := l2.cell 3
  have e4 := l2.cell 4
  have e5 := l2.cell 5
  have e6 := l2.cell 6
  have e7 := l2.cell 7
  have e8 := l2.cell 8
  have e9 := l2.cell 9
  have e10 := l2.cell 10
  simp at e0 e1 e2 e3 e4 e5 e6 e7 e8 e9 e10
  have q0 := l3.cell 0
  have q1 := l3.cell 1
  have q2 := l3.cell 2
  have q3 := l3.cell 3
  simp at q0 q1 q2 q3
  have p0 := l4.cell 0
  have p1 := l4.cell 1
  have p2 := l4.cell 2
  simp at p0 p1 p2
  have r1 := m4.cell 1
  have r2 := m4.cell 2
  simp at r1 r2
  have g0 : w.heap.size < W3.heap.size := by omega
  have g1 : w.heap.size + 1 < W3.heap.size := by omega
  have g2 : w.heap.size + 1 + 1 < W3.heap.size := by omega
  have hbd : Below w.heap.size W4 W4.drew := ⟨rfl, rfl, rfl, Nat.le_refl _, fun _ _ => rfl⟩
  have S4d : SBel W3 W4.drew := S4
  have HZ3 := Lib.hid hz3
  clear l2 l3 m4 hk b4 K4 k34 l1 l4 hz3
  go_enter Try.func24, Try.ntmps24
  go_upto_region 4 with fail
  go_region_held3 (fun w' => W3.heap.size ≤ w'.heap.size ∧ ∀ b o, b < W3.heap.size → w'.cell? ⟨b, o, none⟩ = W3.cell? ⟨b, o, none⟩) (first | exact S4d | exact S4d.below hb1 | exact ((((((S4d.below hb1).set (by simp) _).set (by simp) _).set (by simp) _).set (by simp) _).set (by simp) _))
    (first
      | (go_at_call 26; (with_reducible refine (HN.out _ hbd).mono ?_); rintro e1 w1 ⟨rfl, hb1⟩
         have b5 := HB4.out.call hb1
         have f0 := b5.frozen 0
         have f1 := b5.frozen 1
         have f2 := b5.frozen 2
         have f3 := b5.frozen 3
         have f4 := b5.frozen 4
         have d0 := b5.cell 0
         have d1 := b5.cell 1
         have d2 := b5.cell 2
         have d3 := b5.cell 3
         have d4 := b5.cell 4
         simp at d0 d1 d2 d3 d4))
  have bF : Blk (((((w1.setCell ⟨W3.heap.size, 0, none⟩ (.int .i64 x)).setCell ⟨W3.heap.size, 1, none⟩ (.int .i64 t.hn)).setCell ⟨W3.heap.size, 2, none⟩ (.int .i64 t.hl)).setCell ⟨W3.heap.size, 3, none⟩ (.int .i64 (-1))).setCell ⟨W3.heap.size, 4, none⟩ (.int .i64 0)) W3.heap.size 56 (Plc.cells ⟨x, (t.hn, t.hl), (-1, 0)⟩) := (((((b5.set_ 0 _).set_ 1 _).set_ 2 _).set_ 3 _).set_ 4 _)
  have kF : Below w.heap.size w (((((w1.setCell ⟨W3.heap.size, 0, none⟩ (.int .i64 x)).setCell ⟨W3.heap.size, 1, none⟩ (.int .i64 t.hn)).setCell ⟨W3.heap.size, 2, none⟩ (.int .i64 t.hl)).setCell ⟨W3.heap.size, 3, none⟩ (.int .i64 (-1))).setCell ⟨W3.heap.size, 4, none⟩ (.int .i64 0)) := (((((HK4.out.trans (hbd.trans (hb1.mono HK4.out.size))).setCell (by simp; omega) _).setCell (by simp; omega) _).setCell (by simp; omega) _).setCell (by simp; omega) _).setCell (by simp; omega) _
  generalize ((((w1.setCell ⟨W3.heap.size, 0, none⟩ (.int .i64 x)).setCell ⟨W3.heap.size, 1, none⟩ (.int .i64 t.hn)).setCell ⟨W3.heap.size, 2, none⟩ (.int .i64 t.hl)).setCell ⟨W3.heap.size, 3, none⟩ (.int .i64 (-1))).setCell ⟨W3.heap.size, 4, none⟩ (.int .i64 0) = Wf at *
  have HBF := Lib.hid bF
  have HKF := Lib.hid kF
  clear bF kF f0 f1 f2 f3 f4 d0 d1 d2 d3 d4 b5 hb1
  go_wp2
  refine bodyPost_ret (v := .tuple #[.agg (Plc.cells ⟨x, (t.hn, t.hl), (-1, 0)⟩), .bool true, .bool (nodeI k t y.toNat == t.hn)]) (results_cell_tmp2 rfl _ _ rfl rfl rfl (run_loadVar_row Wf W3.heap.size _ _ _ (0, 0) _ HBF.out Try.underlying56 rfl (by kernel_rfl))) rfl ⟨?_, HKF.out⟩
  rw [show (nodeI k t y.toNat == t.hn) = decide (nodeI k t y.toNat = t.hn) from rfl]
set_option maxRecDepth 100000 in
set_option maxHeartbeats 8000000 in
theorem pHosted_no (k : KK) (t : TN) (x y z : Int) (h1 : ¬ y < 0) (h2 : ¬ z < 0) (w : World) :
    Calls Try.prog 24 #[.agg k.flat, .agg t.flat, .agg #[.int .i64 x, .int .i64 y, .int .i64 z]] w (RetV (.tuple #[.agg (Plc.cells plcZ), .bool false, .bool true]) w) := by
  obtain ⟨W3, hW3⟩ : ∃ W, ((w.alloc (.cells k.flat 34)).alloc (.cells t.flat 40)).alloc (.cells #[.int .i64 x, .int .i64 y, .int .i64 z] 57) = W := ⟨_, rfl⟩
  obtain ⟨l1, l2, l3, l4⟩ := lay3 w k.flat t.flat #[.int .i64 x, .int .i64 y, .int .i64 z] 34 40 57
  rw [hW3] at l1 l2 l3 l4
  obtain ⟨W4, hW4⟩ : ∃ W, W3.alloc (.cells #[.int .i64 0, .int .i64 0, .int .i64 0, .int .i64 0, .int .i64 0] 56) = W := ⟨_, rfl⟩
  have k34 : Below W3.heap.size W3 W4 := by rw [← hW4]; exact (Below.refl _ _).alloc (Nat.le_refl _) _
  have b5 : Blk W4 W3.heap.size 56 #[.int .i64 0, .int .i64 0, .int .i64 0, .int .i64 0, .int .i64 0] := by rw [← hW4]; exact Blk.new _ _ _
  have m4 := l4.call k34
  have HK4 := Lib.hid (l1.trans (k34.mono l1.size))
  simp only [KK.flat, TN.flat] at hW3 ⊢
  have r1 := m4.cell 1
  have r2 := m4.cell 2
  simp at r1 r2
  have f0 := b5.frozen 0
  have f1 := b5.frozen 1
  have f2 := b5.frozen 2
  have f3 := b5.frozen 3
  have f4 := b5.frozen 4
  have d0 := b5.cell 0
  have d1 := b5.cell 1
  have d2 := b5.cell 2
  have d3 := b5.cell 3
  have d4 := b5.cell 4
  simp at d0 d1 d2 d3 d4
  have HB5 := Lib.hid b5
  have hlz := l1.size
  clear l2 l3 m4 k34 l1 l4 b5
  go_enter Try.func24, Try.ntmps24
  go_wp2
  have bF := (((((HB5.out.set_ 0 (.int .i64 0)).set_ 1 (.int .i64 0)).set_ 2 (.int .i64 0)).set_ 3 (.int .i64 0)).set_ 4 (.int .i64 0))
  refine bodyPost_ret (v := .tuple #[.agg (Plc.cells plcZ), .bool false, .bool true]) (results_cell_tmp2 rfl _ _ rfl rfl rfl (run_loadVar_row _ W3.heap.size _ _ (Plc.cells plcZ) (0, 0) _ bF Try.underlying56 rfl (by kernel_rfl))) rfl ⟨rfl, ?_⟩
  exact ((((HK4.out.setCell (by simp; omega) _).setCell (by simp; omega) _).setCell (by simp; omega) _).setCell (by simp; omega) _).setCell (by simp; omega) _
theorem pHosted (k : KK) (t : TN) (c : Int × Int × Int) (hb1 : c.2.1 < 0 → isBr k c.2.2) (hb2 : ¬ c.2.1 < 0 → c.2.2 < 0 → isBr k c.2.1) (B : Nat) (w : World) (hk : k.In w B) (hB : B ≤ w.heap.size) :
    Calls Try.prog 24 #[.agg k.flat, .agg t.flat, .agg #[.int .i64 c.1, .int .i64 c.2.1, .int .i64 c.2.2]] w (RetV (.tuple #[.agg (Plc.cells (hostQ k t c).1), .bool (hostQ k t c).2.1, .bool (hostQ k t c).2.2]) w) := by
  obtain ⟨x, y, z⟩ := c
  unfold hostQ
  by_cases h1 : y < 0
  · simp only [if_pos h1]
    exact pHosted_in k t x y z h1 (hb1 h1) B w hk hB
  · by_cases h2 : z < 0
    · simp only [if_neg h1, if_pos h2]
      exact pHosted_out k t x y z h1 h2 (hb2 h1 h2) B w hk hB
    · simp only [if_neg h1, if_neg h2]
      exact pHosted_no k t x y z h1 h2 w
end Go.Proofs.Ytekamebpjjkifaa
