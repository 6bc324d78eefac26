/- walks -/
import Derived.Test.YtadpenphiagdmaaW1
namespace Go.Proofs.Ytadpenphiagdmaa
open Go.RowKit
set_option linter.unusedVariables false
set_option linter.unusedSimpArgs false

abbrev Pt := Int × Int
def Pt.cells (p : Pt) : List Value := [.int .i64 p.1, .int .i64 p.2]
def pcells (l : List Pt) : List Value := l.flatMap Pt.cells
theorem pcells_length (l : List Pt) : (pcells l).length = l.length * 2 := by
  induction l with
  | nil => rfl
  | cons x r ih => simp [pcells, Pt.cells] at ih ⊢; omega
theorem pcells_append (l r : List Pt) : pcells (l ++ r) = pcells l ++ pcells r := by simp [pcells]
theorem pcells_succ (y : Pt) (r : List Pt) (k : Nat) : (pcells (y :: r))[(k + 1) * 2]? = (pcells r)[k * 2]? := by
  rw [show (k + 1) * 2 = k * 2 + 1 + 1 from by omega]; rfl
theorem pcells_succ1 (y : Pt) (r : List Pt) (k : Nat) : (pcells (y :: r))[(k + 1) * 2 + 1]? = (pcells r)[k * 2 + 1]? := by
  rw [show (k + 1) * 2 + 1 = k * 2 + 1 + 1 + 1 from by omega]; rfl
theorem pcells_get (l : List Pt) (k : Nat) (x : Pt) (h : l[k]? = some x) : (pcells l)[k * 2]? = some (.int .i64 x.1) ∧ (pcells l)[k * 2 + 1]? = some (.int .i64 x.2) := by
  induction l generalizing k with
  | nil => simp at h
  | cons y r ih =>
    cases k with
    | zero => simp at h; subst h; simp [pcells, Pt.cells]
    | succ k =>
      simp at h
      obtain ⟨h1, h2⟩ := ih k h
      exact ⟨by rw [← h1, pcells_succ], by rw [← h2, pcells_succ1]⟩

theorem port_info : (Try.prog.info? 24).map (fun i => (i.zero, i.size, i.bytes)) = some (some (.agg #[.int .i64 0, .int .i64 0]), 2, 16) := by kernel_rfl

def portsOf (ws : List Wire) : List Pt := ws.flatMap fun x => [(x.a, x.b), (x.c, x.d)]
theorem portsOf_take {ws : List Wire} {k : Nat} {x : Wire} (hx : ws[k]? = some x) : portsOf (ws.take (k + 1)) = portsOf (ws.take k) ++ [(x.a, x.b), (x.c, x.d)] := by
  obtain ⟨hk, rfl⟩ := List.getElem?_eq_some_iff.1 hx
  rw [List.take_succ_eq_append_getElem hk]; simp only [portsOf, List.flatMap_append]; rfl

set_option maxRecDepth 100000 in
set_option maxHeartbeats 400000 in
theorem rports (N hn hl : Int) (A : Option Addr) (m c : Nat) (ws : List Wire) (w : World) (hr : Reads w w.heap.size 4 A m (wcells ws)) (hm : m ≤ 1000000) :
    Calls Try.prog 32 #[.agg #[.int .i64 N, .slice A m c, .int .i64 hn, .int .i64 hl]] w (RetS 2 (1 + m * 2) (pcells ((hn, hl) :: portsOf ws)) w) := by
  have hlen : ws.length = m := by have := hr.1; rw [wcells_length] at this; omega
  obtain ⟨i0, hi0, hz0, hz1, hz2⟩ := info_parts port_info
  go_enter Try.func32, Try.ntmps32
  go_wp2
  go_loopw [3, 4] (fun v i wr => ∃ k : Nat, k ≤ m ∧ i = .int .i64 k ∧ wr.ownsRow (w.heap.size + 1) 24 2 v (1 + k * 2) (pcells ((hn, hl) :: portsOf (ws.take k))) ∧ Below w.heap.size w wr ∧
      Blk wr w.heap.size 26 #[.int .i64 N, .slice A m c, .int .i64 hn, .int .i64 hl]) (fun _ i _ => m - (intOf i).toNat)
  case atStart =>
    obtain ⟨l1, l2, l3⟩ := lay2 w #[Value.int IntKind.i64 N, Value.slice A m c, Value.int IntKind.i64 hn, Value.int IntKind.i64 hl] #[.int .i64 hn, .int .i64 hl] 26 24
    refine ⟨0, by omega, rfl, ?_, l1, l2⟩
    have := World.ownsRow_lit (base := w.heap.size + 1) (e := 24) (size := 2) (w.alloc (Obj.cells #[Value.int IntKind.i64 N, Value.slice A m c, Value.int IntKind.i64 hn, Value.int IntKind.i64 hl] 26)) #[.int .i64 hn, .int .i64 hl] 1 (by simp) (by unfold maxLen; omega) rfl
    simp only [World.size_alloc] at this
    exact this
  case round =>
    obtain ⟨k, hk, rfl, hown, hB, b0⟩ := hrel
    have c01 := b0.cell 1
    simp at c01
    have hsz := b0.lt
    have Hl := Lib.hid hlen; clear hlen
    by_cases hlt : k < m
    · obtain ⟨bk, off, rfl, hb, hc⟩ := (hr.below hB).addr (by omega) (by omega)
      obtain ⟨x, hx⟩ : ∃ x, ws[k]? = some x := ⟨_, List.getElem?_eq_getElem (by rw [Hl.out]; omega)⟩
      have h0 := hc _ _ (wcells_get ws k x hx 0 _ rfl)
      have h1 := hc _ _ (wcells_get ws k x hx 1 _ rfl)
      have h2 := hc _ _ (wcells_get ws k x hx 2 _ rfl)
      have h3 := hc _ _ (wcells_get ws k x hx 3 _ rfl)
      have Hx := Lib.hid hx; clear hx
      clear hc
      simp only [Nat.add_zero, ← Nat.add_assoc] at h0 h1 h2 h3
      go_wp2
      go_region_held3 (fun w' => w'.cell? ⟨w.heap.size, 1, none⟩ = some (Value.slice (some { block := bk, off := off }) m c) ∧ w'.cell? ⟨bk, off + k * 4, none⟩ = some (.int .i64 x.a) ∧ w'.cell? ⟨bk, off + k * 4 + 1, none⟩ = some (.int .i64 x.b) ∧
          w'.cell? ⟨bk, off + k * 4 + 2, none⟩ = some (.int .i64 x.c) ∧ w'.cell? ⟨bk, off + k * 4 + 3, none⟩ = some (.int .i64 x.d))
        (first | go_keep | (go_split_ands; refine ⟨?_, ?_, ?_, ?_, ?_⟩ <;> (rw [hB2.cell (by simp <;> omega)]; simp [*])))
        ((refine step_app_own Try.underlying67 hi0 hz0 hz1 hz2 rfl (by decide) (hown.drew'.alloc _) (by simp <;> omega) rfl (.tmp 15) (.tmp 28) rfl rfl wr.heap.size 2 2 #[.int .i64 x.a, .int .i64 x.b, .int .i64 x.c, .int .i64 x.d] rfl (Blk.new wr.drew _ _) rfl (by simp [Value.oneCell']) (by omega) (by omega) ?_; intro v' w' hown2 _ hB2 _))
      have hB' := hB.drew
      have b0' := b0.drew
      clear hown hB b0
      go_wp2
      go_roundw
      case rel =>
        refine ⟨k + 1, by omega, by go_num, ?_, ?_, ?_⟩
        · rw [portsOf_take Hx.out, show 1 + (k + 1) * 2 = 1 + k * 2 + 2 from by omega]
          simpa [pcells, Pt.cells] using hown2
        · exact (hB'.alloc (by simp <;> omega) _).trans (hB2.mono (by omega))
        · exact (b0'.alloc _).below hB2 (by omega)
      case measure => simp [intOf]; omega
    · obtain rfl : k = m := by omega
      go_wp2
      go_ret
      rw [List.take_of_length_le (by rw [Hl.out]; omega)] at hown
      exact RetS.of_own hown hB
end Go.Proofs.Ytadpenphiagdmaa
