/- Texts that belong together, joined: what each one holds is told ahead of it. -/
import Derived.Test.YtekamebpjjkifaaHK16
import Derived.Laws.ResultCell
/- The document's forms of processes, walked. -/
namespace Go.Proofs.Ytekamebpjjkifaa
open Go.RowKit
set_option linter.unusedSimpArgs false
set_option linter.unusedVariables false

set_option maxHeartbeats 2000000 in
theorem rWithin (n a b : Int) (w : World) : Calls Try.prog 47 #[.int .i64 n, .agg #[.int .i64 a, .int .i64 b]] w (RetV (.bool (inI n a b)) w) := by
  have K0 : Hid (Below w.heap.size w (w.alloc (.cells #[.int .i64 a, .int .i64 b] 120))) := Lib.hid ((Below.refl _ _).alloc (Nat.le_refl _) _)
  by_cases h1 : a ≤ n
  · have HR := Lib.hid (show inI n a b = decide (n ≤ b) by simp [inI, h1])
    go_enter Try.func47, Try.ntmps47
    go_wp2
    go_ret
    exact ⟨by refine ret_bool rfl ?_; rw [HR.out], K0.out⟩
  · have HR := Lib.hid (show inI n a b = false by simp [inI, h1])
    go_enter Try.func47, Try.ntmps47
    go_wp2
    go_ret
    exact ⟨by refine ret_bool rfl ?_; rw [HR.out], K0.out⟩
/-- The form of a kind: which fields, and how many parts. -/
structure FormL where
  c : Bool
  v : Bool
  i : Bool
  a0 : Int
  a1 : Int
  b0 : Int
  b1 : Int
  c0 : Int
  c1 : Int
  d0 : Int
  d1 : Int
def FormL.cells (f : FormL) : Array Value := #[.bool f.c, .bool f.v, .bool f.i, .int .i64 f.a0, .int .i64 f.a1, .int .i64 f.b0, .int .i64 f.b1, .int .i64 f.c0, .int .i64 f.c1, .int .i64 f.d0, .int .i64 f.d1]
def formK : Nat → Option FormL
  | 1 => some ⟨false, false, false, 0, 0, 0, 0, 0, 0, 0, 0⟩
  | 2 => some ⟨false, false, false, 0, 0, 0, 0, 0, 0, 0, 0⟩
  | 3 => some ⟨false, true, false, 0, 0, 0, 0, 0, 0, 0, 0⟩
  | 4 => some ⟨false, false, false, 1, 8, 1, 8, 0, 0, 0, 0⟩
  | 5 => some ⟨true, false, true, 1, 1, 0, 0, 0, 0, 0, 0⟩
  | 6 => some ⟨true, false, true, 0, 0, 1, 1, 0, 0, 0, 0⟩
  | 7 => some ⟨false, false, false, 1, 1, 0, 0, 0, 0, 0, 0⟩
  | 8 => some ⟨false, false, false, 0, 0, 1, 1, 0, 0, 0, 0⟩
  | 9 => some ⟨false, false, false, 0, 0, 0, 0, 0, 0, 0, 2048⟩
  | 10 => some ⟨false, false, false, 0, 0, 0, 0, 0, 0, 0, 16⟩
  | 11 => some ⟨false, false, false, 0, 0, 0, 0, 0, 0, 2, 2⟩
  | 12 => some ⟨false, false, false, 0, 0, 0, 0, 0, 16, 0, 0⟩
  | 13 => some ⟨false, false, false, 0, 0, 1, 1, 0, 0, 1, 1⟩
  | 14 => some ⟨false, false, false, 0, 0, 0, 0, 0, 16, 0, 0⟩
  | 15 => some ⟨false, false, false, 0, 0, 0, 0, 0, 16, 0, 0⟩
  | _ => none
def formV (k : Nat) : Value := match formK k with
  | some f => .tuple #[.agg f.cells, .bool true]
  | none => .tuple #[.agg (FormL.cells ⟨false, false, false, 0, 0, 0, 0, 0, 0, 0, 0⟩), .bool false]
theorem form_size : (Try.prog.info? 122).map (·.size) = some 11 := by kernel_rfl
theorem results_cell_row2 {P : Program} {fn : Func} {p u : Tmp} {ty : TypeId} (h : fn.results = #[.cell p ty, .tmp u]) (tmps : Array Value) (w : World) (g : Nat) (t : TypeId) (cs : Array Value) (fr : Nat × Nat) (d : TypeDesc) (v : Value) (hv : tmps.getD u undef = v)
    (hp : tmps.getD p undef = .pointer (some ⟨g, 0, none⟩)) (hg : w.heap[g]? = some (.cells cs t fr))
    (hu : P.underlying ty = some d) (hd : (match d with | .struct _ | .array _ _ => true | _ => false) = true) (hi : (P.info? ty).map (·.size) = some cs.size) :
    (results fn tmps).run P w = .ok (.tuple #[.agg cs, v]) w := by
  have hp' : tmps[p]?.getD undef = .pointer (some ⟨g, 0, none⟩) := by simpa using hp
  have hv' : tmps[u]?.getD undef = v := by simpa using hv
  rw [results_cell_tmp h]
  simp [hp', hv', asAddr, run_loadVar_row w g t ty cs fr d hg hu hd hi, Result.andThen]
/-- The boxes that forms lays. -/
theorem form_boxes (w : World) (cs : Array Value) : Below w.heap.size w (((w.alloc (.cells cs 122)).alloc (.cells #[.int .i64 1, .int .i64 1] 120)).alloc (.cells #[.int .i64 0, .int .i64 16] 120)) ∧
    (((w.alloc (.cells cs 122)).alloc (.cells #[.int .i64 1, .int .i64 1] 120)).alloc (.cells #[.int .i64 0, .int .i64 16] 120)).heap[w.heap.size]? = some (.cells cs 122 (0, 0)) := by
  obtain ⟨h1, h2, -, -⟩ := lay3 w cs #[.int .i64 1, .int .i64 1] #[.int .i64 0, .int .i64 16] 122 120 120
  exact ⟨h1, h2⟩
set_option maxRecDepth 100000 in
set_option maxHeartbeats 4000000 in
theorem rForms_1 (w : World) : Calls Try.prog 46 #[.int .u8 1] w (RetV (.tuple #[.agg #[.bool false, .bool false, .bool false, .int .i64 0, .int .i64 0, .int .i64 0, .int .i64 0, .int .i64 0, .int .i64 0, .int .i64 0, .int .i64 0], .bool true]) w) := by
  go_enter Try.func46, Try.ntmps46
  go_wp2
  obtain ⟨k1, k2⟩ := form_boxes w #[.bool false, .bool false, .bool false, .int .i64 0, .int .i64 0, .int .i64 0, .int .i64 0, .int .i64 0, .int .i64 0, .int .i64 0, .int .i64 0]
  refine bodyPost_ret (v := .tuple #[.agg #[.bool false, .bool false, .bool false, .int .i64 0, .int .i64 0, .int .i64 0, .int .i64 0, .int .i64 0, .int .i64 0, .int .i64 0, .int .i64 0], .bool true]) (results_cell_row2 rfl _ _ w.heap.size _ _ (0, 0) _ _ rfl rfl k2 Try.underlying122 rfl form_size) rfl ⟨rfl, k1⟩
set_option maxRecDepth 100000 in
set_option maxHeartbeats 4000000 in
theorem rForms_2 (w : World) : Calls Try.prog 46 #[.int .u8 2] w (RetV (.tuple #[.agg #[.bool false, .bool false, .bool false, .int .i64 0, .int .i64 0, .int .i64 0, .int .i64 0, .int .i64 0, .int .i64 0, .int .i64 0, .int .i64 0], .bool true]) w) := by
  go_enter Try.func46, Try.ntmps46
  go_wp2
  obtain ⟨k1, k2⟩ := form_boxes w #[.bool false, .bool false, .bool false, .int .i64 0, .int .i64 0, .int .i64 0, .int .i64 0, .int .i64 0, .int .i64 0, .int .i64 0, .int .i64 0]
  refine bodyPost_ret (v := .tuple #[.agg #[.bool false, .bool false, .bool false, .int .i64 0, .int .i64 0, .int .i64 0, .int .i64 0, .int .i64 0, .int .i64 0, .int .i64 0, .int .i64 0], .bool true]) (results_cell_row2 rfl _ _ w.heap.size _ _ (0, 0) _ _ rfl rfl k2 Try.underlying122 rfl form_size) rfl ⟨rfl, k1⟩
set_option maxRecDepth 100000 in
set_option maxHeartbeats 4000000 in
theorem rForms_3 (w : World) : Calls Try.prog 46 #[.int .u8 3] w (RetV (.tuple #[.agg #[.bool false, .bool true, .bool false, .int .i64 0, .int .i64 0, .int .i64 0, .int .i64 0, .int .i64 0, .int .i64 0, .int .i64 0, .int .i64 0], .bool true]) w) := by
  go_enter Try.func46, Try.ntmps46
  go_wp2
  obtain ⟨k1, k2⟩ := form_boxes w #[.bool false, .bool true, .bool false, .int .i64 0, .int .i64 0, .int .i64 0, .int .i64 0, .int .i64 0, .int .i64 0, .int .i64 0, .int .i64 0]
  refine bodyPost_ret (v := .tuple #[.agg #[.bool false, .bool true, .bool false, .int .i64 0, .int .i64 0, .int .i64 0, .int .i64 0, .int .i64 0, .int .i64 0, .int .i64 0, .int .i64 0], .bool true]) (results_cell_row2 rfl _ _ w.heap.size _ _ (0, 0) _ _ rfl rfl k2 Try.underlying122 rfl form_size) rfl ⟨rfl, k1⟩
set_option maxRecDepth 100000 in
set_option maxHeartbeats 4000000 in
theorem rForms_4 (w : World) : Calls Try.prog 46 #[.int .u8 4] w (RetV (.tuple #[.agg #[.bool false, .bool false, .bool false, .int .i64 1, .int .i64 8, .int .i64 1, .int .i64 8, .int .i64 0, .int .i64 0, .int .i64 0, .int .i64 0], .bool true]) w) := by
  go_enter Try.func46, Try.ntmps46
  go_wp2
  obtain ⟨k1, k2⟩ := form_boxes w #[.bool false, .bool false, .bool false, .int .i64 1, .int .i64 8, .int .i64 1, .int .i64 8, .int .i64 0, .int .i64 0, .int .i64 0, .int .i64 0]
  refine bodyPost_ret (v := .tuple #[.agg #[.bool false, .bool false, .bool false, .int .i64 1, .int .i64 8, .int .i64 1, .int .i64 8, .int .i64 0, .int .i64 0, .int .i64 0, .int .i64 0], .bool true]) (results_cell_row2 rfl _ _ w.heap.size _ _ (0, 0) _ _ rfl rfl k2 Try.underlying122 rfl form_size) rfl ⟨rfl, k1⟩
set_option maxRecDepth 100000 in
set_option maxHeartbeats 4000000 in
theorem rForms_5 (w : World) : Calls Try.prog 46 #[.int .u8 5] w (RetV (.tuple #[.agg #[.bool true, .bool false, .bool true, .int .i64 1, .int .i64 1, .int .i64 0, .int .i64 0, .int .i64 0, .int .i64 0, .int .i64 0, .int .i64 0], .bool true]) w) := by
  go_enter Try.func46, Try.ntmps46
  go_wp2
  obtain ⟨k1, k2⟩ := form_boxes w #[.bool true, .bool false, .bool true, .int .i64 1, .int .i64 1, .int .i64 0, .int .i64 0, .int .i64 0, .int .i64 0, .int .i64 0, .int .i64 0]
  refine bodyPost_ret (v := .tuple #[.agg #[.bool true, .bool false, .bool true, .int .i64 1, .int .i64 1, .int .i64 0, .int .i64 0, .int .i64 0, .int .i64 0, .int .i64 0, .int .i64 0], .bool true]) (results_cell_row2 rfl _ _ w.heap.size _ _ (0, 0) _ _ rfl rfl k2 Try.underlying122 rfl form_size) rfl ⟨rfl, k1⟩
set_option maxRecDepth 100000 in
set_option maxHeartbeats 4000000 in
theorem rForms_6 (w : World) : Calls Try.prog 46 #[.int .u8 6] w (RetV (.tuple #[.agg #[.bool true, .bool false, .bool true, .int .i64 0, .int .i64 0, .int .i64 1, .int .i64 1, .int .i64 0, .int .i64 0, .int .i64 0, .int .i64 0], .bool true]) w) := by
  go_enter Try.func46, Try.ntmps46
  go_wp2
  obtain ⟨k1, k2⟩ := form_boxes w #[.bool true, .bool false, .bool true, .int .i64 0, .int .i64 0, .int .i64 1, .int .i64 1, .int .i64 0, .int .i64 0, .int .i64 0, .int .i64 0]
  refine bodyPost_ret (v := .tuple #[.agg #[.bool true, .bool false, .bool true, .int .i64 0, .int .i64 0, .int .i64 1, .int .i64 1, .int .i64 0, .int .i64 0, .int .i64 0, .int .i64 0], .bool true]) (results_cell_row2 rfl _ _ w.heap.size _ _ (0, 0) _ _ rfl rfl k2 Try.underlying122 rfl form_size) rfl ⟨rfl, k1⟩
set_option maxRecDepth 100000 in
set_option maxHeartbeats 4000000 in
theorem rForms_7 (w : World) : Calls Try.prog 46 #[.int .u8 7] w (RetV (.tuple #[.agg #[.bool false, .bool false, .bool false, .int .i64 1, .int .i64 1, .int .i64 0, .int .i64 0, .int .i64 0, .int .i64 0, .int .i64 0, .int .i64 0], .bool true]) w) := by
  go_enter Try.func46, Try.ntmps46
  go_wp2
  obtain ⟨k1, k2⟩ := form_boxes w #[.bool false, .bool false, .bool false, .int .i64 1, .int .i64 1, .int .i64 0, .int .i64 0, .int .i64 0, .int .i64 0, .int .i64 0, .int .i64 0]
  refine bodyPost_ret (v := .tuple #[.agg #[.bool false, .bool false, .bool false, .int .i64 1, .int .i64 1, .int .i64 0, .int .i64 0, .int .i64 0, .int .i64 0, .int .i64 0, .int .i64 0], .bool true]) (results_cell_row2 rfl _ _ w.heap.size _ _ (0, 0) _ _ rfl rfl k2 Try.underlying122 rfl form_size) rfl ⟨rfl, k1⟩
set_option maxRecDepth 100000 in
set_option maxHeartbeats 4000000 in
theorem rForms_8 (w : World) : Calls Try.prog 46 #[.int .u8 8] w (RetV (.tuple #[.agg #[.bool false, .bool false, .bool false, .int .i64 0, .int .i64 0, .int .i64 1, .int .i64 1, .int .i64 0, .int .i64 0, .int .i64 0, .int .i64 0], .bool true]) w) := by
  go_enter Try.func46, Try.ntmps46
  go_wp2
  obtain ⟨k1, k2⟩ := form_boxes w #[.bool false, .bool false, .bool false, .int .i64 0, .int .i64 0, .int .i64 1, .int .i64 1, .int .i64 0, .int .i64 0, .int .i64 0, .int .i64 0]
  refine bodyPost_ret (v := .tuple #[.agg #[.bool false, .bool false, .bool false, .int .i64 0, .int .i64 0, .int .i64 1, .int .i64 1, .int .i64 0, .int .i64 0, .int .i64 0, .int .i64 0], .bool true]) (results_cell_row2 rfl _ _ w.heap.size _ _ (0, 0) _ _ rfl rfl k2 Try.underlying122 rfl form_size) rfl ⟨rfl, k1⟩
set_option maxRecDepth 100000 in
set_option maxHeartbeats 4000000 in
theorem rForms_9 (w : World) : Calls Try.prog 46 #[.int .u8 9] w (RetV (.tuple #[.agg #[.bool false, .bool false, .bool false, .int .i64 0, .int .i64 0, .int .i64 0, .int .i64 0, .int .i64 0, .int .i64 0, .int .i64 0, .int .i64 2048], .bool true]) w) := by
  go_enter Try.func46, Try.ntmps46
  go_wp2
  obtain ⟨k1, k2⟩ := form_boxes w #[.bool false, .bool false, .bool false, .int .i64 0, .int .i64 0, .int .i64 0, .int .i64 0, .int .i64 0, .int .i64 0, .int .i64 0, .int .i64 2048]
  refine bodyPost_ret (v := .tuple #[.agg #[.bool false, .bool false, .bool false, .int .i64 0, .int .i64 0, .int .i64 0, .int .i64 0, .int .i64 0, .int .i64 0, .int .i64 0, .int .i64 2048], .bool true]) (results_cell_row2 rfl _ _ w.heap.size _ _ (0, 0) _ _ rfl rfl k2 Try.underlying122 rfl form_size) rfl ⟨rfl, k1⟩
set_option maxRecDepth 100000 in
set_option maxHeartbeats 4000000 in
theorem rForms_10 (w : World) : Calls Try.prog 46 #[.int .u8 10] w (RetV (.tuple #[.agg #[.bool false, .bool false, .bool false, .int .i64 0, .int .i64 0, .int .i64 0, .int .i64 0, .int .i64 0, .int .i64 0, .int .i64 0, .int .i64 16], .bool true]) w) := by
  go_enter Try.func46, Try.ntmps46
  go_wp2
  obtain ⟨k1, k2⟩ := form_boxes w #[.bool false, .bool false, .bool false, .int .i64 0, .int .i64 0, .int .i64 0, .int .i64 0, .int .i64 0, .int .i64 0, .int .i64 0, .int .i64 16]
  refine bodyPost_ret (v := .tuple #[.agg #[.bool false, .bool false, .bool false, .int .i64 0, .int .i64 0, .int .i64 0, .int .i64 0, .int .i64 0, .int .i64 0, .int .i64 0, .int .i64 16], .bool true]) (results_cell_row2 rfl _ _ w.heap.size _ _ (0, 0) _ _ rfl rfl k2 Try.underlying122 rfl form_size) rfl ⟨rfl, k1⟩
set_option maxRecDepth 100000 in
set_option maxHeartbeats 4000000 in
theorem rForms_11 (w : World) : Calls Try.prog 46 #[.int .u8 11] w (RetV (.tuple #[.agg #[.bool false, .bool false, .bool false, .int .i64 0, .int .i64 0, .int .i64 0, .int .i64 0, .int .i64 0, .int .i64 0, .int .i64 2, .int .i64 2], .bool true]) w) := by
  go_enter Try.func46, Try.ntmps46
  go_wp2
  obtain ⟨k1, k2⟩ := form_boxes w #[.bool false, .bool false, .bool false, .int .i64 0, .int .i64 0, .int .i64 0, .int .i64 0, .int .i64 0, .int .i64 0, .int .i64 2, .int .i64 2]
  refine bodyPost_ret (v := .tuple #[.agg #[.bool false, .bool false, .bool false, .int .i64 0, .int .i64 0, .int .i64 0, .int .i64 0, .int .i64 0, .int .i64 0, .int .i64 2, .int .i64 2], .bool true]) (results_cell_row2 rfl _ _ w.heap.size _ _ (0, 0) _ _ rfl rfl k2 Try.underlying122 rfl form_size) rfl ⟨rfl, k1⟩
set_option maxRecDepth 100000 in
set_option maxHeartbeats 4000000 in
theorem rForms_12 (w : World) : Calls Try.prog 46 #[.int .u8 12] w (RetV (.tuple #[.agg #[.bool false, .bool false, .bool false, .int .i64 0, .int .i64 0, .int .i64 0, .int .i64 0, .int .i64 0, .int .i64 16, .int .i64 0, .int .i64 0], .bool true]) w) := by
  go_enter Try.func46, Try.ntmps46
  go_wp2
  obtain ⟨k1, k2⟩ := form_boxes w #[.bool false, .bool false, .bool false, .int .i64 0, .int .i64 0, .int .i64 0, .int .i64 0, .int .i64 0, .int .i64 16, .int .i64 0, .int .i64 0]
  refine bodyPost_ret (v := .tuple #[.agg #[.bool false, .bool false, .bool false, .int .i64 0, .int .i64 0, .int .i64 0, .int .i64 0, .int .i64 0, .int .i64 16, .int .i64 0, .int .i64 0], .bool true]) (results_cell_row2 rfl _ _ w.heap.size _ _ (0, 0) _ _ rfl rfl k2 Try.underlying122 rfl form_size) rfl ⟨rfl, k1⟩
set_option maxRecDepth 100000 in
set_option maxHeartbeats 4000000 in
theorem rForms_13 (w : World) : Calls Try.prog 46 #[.int .u8 13] w (RetV (.tuple #[.agg #[.bool false, .bool false, .bool false, .int .i64 0, .int .i64 0, .int .i64 1, .int .i64 1, .int .i64 0, .int .i64 0, .int .i64 1, .int .i64 1], .bool true]) w) := by
  go_enter Try.func46, Try.ntmps46
  go_wp2
  obtain ⟨k1, k2⟩ := form_boxes w #[.bool false, .bool false, .bool false, .int .i64 0, .int .i64 0, .int .i64 1, .int .i64 1, .int .i64 0, .int .i64 0, .int .i64 1, .int .i64 1]
  refine bodyPost_ret (v := .tuple #[.agg #[.bool false, .bool false, .bool false, .int .i64 0, .int .i64 0, .int .i64 1, .int .i64 1, .int .i64 0, .int .i64 0, .int .i64 1, .int .i64 1], .bool true]) (results_cell_row2 rfl _ _ w.heap.size _ _ (0, 0) _ _ rfl rfl k2 Try.underlying122 rfl form_size) rfl ⟨rfl, k1⟩
set_option maxRecDepth 100000 in
set_option maxHeartbeats 4000000 in
theorem rForms_14 (w : World) : Calls Try.prog 46 #[.int .u8 14] w (RetV (.tuple #[.agg #[.bool false, .bool false, .bool false, .int .i64 0, .int .i64 0, .int .i64 0, .int .i64 0, .int .i64 0, .int .i64 16, .int .i64 0, .int .i64 0], .bool true]) w) := by
  go_enter Try.func46, Try.ntmps46
  go_wp2
  obtain ⟨k1, k2⟩ := form_boxes w #[.bool false, .bool false, .bool false, .int .i64 0, .int .i64 0, .int .i64 0, .int .i64 0, .int .i64 0, .int .i64 16, .int .i64 0, .int .i64 0]
  refine bodyPost_ret (v := .tuple #[.agg #[.bool false, .bool false, .bool false, .int .i64 0, .int .i64 0, .int .i64 0, .int .i64 0, .int .i64 0, .int .i64 16, .int .i64 0, .int .i64 0], .bool true]) (results_cell_row2 rfl _ _ w.heap.size _ _ (0, 0) _ _ rfl rfl k2 Try.underlying122 rfl form_size) rfl ⟨rfl, k1⟩
set_option maxRecDepth 100000 in
set_option maxHeartbeats 4000000 in
theorem rForms_15 (w : World) : Calls Try.prog 46 #[.int .u8 15] w (RetV (.tuple #[.agg #[.bool false, .bool false, .bool false, .int .i64 0, .int .i64 0, .int .i64 0, .int .i64 0, .int .i64 0, .int .i64 16, .int .i64 0, .int .i64 0], .bool true]) w) := by
  go_enter Try.func46, Try.ntmps46
  go_wp2
  obtain ⟨k1, k2⟩ := form_boxes w #[.bool false, .bool false, .bool false, .int .i64 0, .int .i64 0, .int .i64 0, .int .i64 0, .int .i64 0, .int .i64 16, .int .i64 0, .int .i64 0]
  refine bodyPost_ret (v := .tuple #[.agg #[.bool false, .bool false, .bool false, .int .i64 0, .int .i64 0, .int .i64 0, .int .i64 0, .int .i64 0, .int .i64 16, .int .i64 0, .int .i64 0], .bool true]) (results_cell_row2 rfl _ _ w.heap.size _ _ (0, 0) _ _ rfl rfl k2 Try.underlying122 rfl form_size) rfl ⟨rfl, k1⟩
set_option maxRecDepth 100000 in
set_option maxHeartbeats 4000000 in
theorem rForms_no (k : Nat) (hk : formK k = none) (w : World) : Calls Try.prog 46 #[.int .u8 k] w (RetV (.tuple #[.agg #[.bool false, .bool false, .bool false, .int .i64 0, .int .i64 0, .int .i64 0, .int .i64 0, .int .i64 0, .int .i64 0, .int .i64 0, .int .i64 0], .bool false]) w) := by
  have hne : ∀ j, 1 ≤ j → j ≤ 15 → k ≠ j := by
    rintro j h1 h2 rfl
    obtain rfl | rfl | rfl | rfl | rfl | rfl | rfl | rfl | rfl | rfl | rfl | rfl | rfl | rfl | rfl : k = 1 ∨ k = 2 ∨ k = 3 ∨ k = 4 ∨ k = 5 ∨ k = 6 ∨ k = 7 ∨ k = 8 ∨ k = 9 ∨ k = 10 ∨ k = 11 ∨ k = 12 ∨ k = 13 ∨ k = 14 ∨ k = 15 := by omega
    all_goals cases hk
  have y1 : ((k : Int) == 1) = false := by have := hne 1 (by omega) (by omega); simp; omega
  have y2 : ((k : Int) == 2) = false := by have := hne 2 (by omega) (by omega); simp; omega
  have y3 : ((k : Int) == 3) = false := by have := hne 3 (by omega) (by omega); simp; omega
  have y4 : ((k : Int) == 4) = false := by have := hne 4 (by omega) (by omega); simp; omega
  have y5 : ((k : Int) == 5) = false := by have := hne 5 (by omega) (by omega); simp; omega
  have y6 : ((k : Int) == 6) = false := by have := hne 6 (by omega) (by omega); simp; omega
  have y7 : ((k : Int) == 7) = false := by have := hne 7 (by omega) (by omega); simp; omega
  have y8 : ((k : Int) == 8) = false := by have := hne 8 (by omega) (by omega); simp; omega
  have y9 : ((k : Int) == 9) = false := by have := hne 9 (by omega) (by omega); simp; omega
  have y10 : ((k : Int) == 10) = false := by have := hne 10 (by omega) (by omega); simp; omega
  have y11 : ((k : Int) == 11) = false := by have := hne 11 (by omega) (by omega); simp; omega
  have y12 : ((k : Int) == 12) = false := by have := hne 12 (by omega) (by omega); simp; omega
  have y13 : ((k : Int) == 13) = false := by have := hne 13 (by omega) (by omega); simp; omega
  have y14 : ((k : Int) == 14) = false := by have := hne 14 (by omega) (by omega); simp; omega
  have y15 : ((k : Int) == 15) = false := by have := hne 15 (by omega) (by omega); simp; omega
  clear hne hk
  go_enter Try.func46, Try.ntmps46
  go_wp2
  obtain ⟨k1, k2⟩ := form_boxes w #[.bool false, .bool false, .bool false, .int .i64 0, .int .i64 0, .int .i64 0, .int .i64 0, .int .i64 0, .int .i64 0, .int .i64 0, .int .i64 0]
  refine bodyPost_ret (v := .tuple #[.agg #[.bool false, .bool false, .bool false, .int .i64 0, .int .i64 0, .int .i64 0, .int .i64 0, .int .i64 0, .int .i64 0, .int .i64 0, .int .i64 0], .bool false]) (results_cell_row2 rfl _ _ w.heap.size _ _ (0, 0) _ _ rfl rfl k2 Try.underlying122 rfl form_size) rfl ⟨rfl, k1⟩
theorem rForms_yes (k : Nat) (f : FormL) (hk : formK k = some f) (w : World) : Calls Try.prog 46 #[.int .u8 k] w (RetV (.tuple #[.agg f.cells, .bool true]) w) := by
  unfold formK at hk
  split at hk
  all_goals first
    | (cases hk; done)
    | (injection hk with hk; subst hk)
  · exact rForms_1 w
  · exact rForms_2 w
  · exact rForms_3 w
  · exact rForms_4 w
  · exact rForms_5 w
  · exact rForms_6 w
  · exact rForms_7 w
  · exact rForms_8 w
  · exact rForms_9 w
  · exact rForms_10 w
  · exact rForms_11 w
  · exact rForms_12 w
  · exact rForms_13 w
  · exact rForms_14 w
  · exact rForms_15 w
end Go.Proofs.Ytekamebpjjkifaa
