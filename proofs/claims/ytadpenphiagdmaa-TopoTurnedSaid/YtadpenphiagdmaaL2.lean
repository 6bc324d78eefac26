/- The law's own functions: copied. -/
import Derived.Test.YtadpenphiagdmaaL1
namespace Go.Proofs.Ytadpenphiagdmaa
open Go.RowKit
set_option linter.unusedVariables false
set_option linter.unusedSimpArgs false

theorem wire_info : (Try.prog.info? 50).map (fun i => (i.zero, i.size, i.bytes)) = some (some (.agg #[.int .i64 0, .int .i64 0, .int .i64 0, .int .i64 0]), 4, 32) := by kernel_rfl
theorem wcells_take (ws : List Wire) : ∀ n, wcells (ws.take n) = (wcells ws).take (n * 4) := by
  induction ws with
  | nil => intro n; simp [wcells]
  | cons x r ih =>
    intro n
    cases n with
    | zero => simp [wcells]
    | succ n =>
      have e : wcells (x :: r) = x.cells ++ wcells r := rfl
      have e2 : wcells ((x :: r).take (n + 1)) = x.cells ++ wcells (r.take n) := rfl
      have hl : x.cells.length = 4 := rfl
      have h1 : x.cells.take ((n + 1) * 4) = x.cells := List.take_of_length_le (by rw [hl]; omega)
      have h2 : (n + 1) * 4 - 4 = n * 4 := by omega
      rw [e, e2, ih n, List.take_append, h1, hl, h2]
theorem wcells_one (ws : List Wire) : ∀ u ∈ wcells ws, u.oneCell' = true := by
  intro u hu
  obtain ⟨x, _, hx⟩ := List.mem_flatMap.1 hu
  simp [Wire.cells] at hx
  rcases hx with rfl | rfl | rfl | rfl <;> rfl
theorem Reads.pre {w : World} {B size n k : Nat} {A : Option Addr} {xs : List Value} (h : Reads w B size A n xs) (hk : k ≤ n) : Reads w B size A k (xs.take (k * size)) := by
  refine ⟨by rw [List.length_take, h.1]; exact Nat.min_eq_left (Nat.mul_le_mul_right _ hk), fun h0 => ?_⟩
  obtain ⟨ad, e, hb, hc⟩ := h.2 (by omega)
  exact ⟨ad, e, hb, fun j u hu => hc j u (by rw [List.getElem?_take] at hu; split at hu; exact hu; cases hu)⟩

/-- A network of so many wires, in memory of the call's own, handed back. -/
def RetO (N hn hl : Int) (ws : List Wire) (w : World) (e : Ending) (w' : World) : Prop :=
  ∃ A m c, e = .returned (.agg #[.int .i64 N, .slice A m c, .int .i64 hn, .int .i64 hl]) ∧ w'.ownsRow w.heap.size 50 4 (.slice A m c) m (wcells ws) ∧ m ≤ c ∧ m = ws.length ∧ Below w.heap.size w w'
theorem _root_.Go.World.ownsRow.weak {w : World} {base base' e size n : Nat} {v : Value} {xs : List Value} (h : w.ownsRow base e size v n xs) (hb : base' ≤ base) : w.ownsRow base' e size v n xs := by
  refine ⟨h.1, ?_⟩
  rcases h.2 with hn | ⟨g, cap, cur, e1, hb', rest⟩
  · exact .inl hn
  · exact .inr ⟨g, cap, cur, e1, by omega, rest⟩
theorem row_ne {n k : Nat} {m c : Nat} (h : k < n) : some k ≠ (Value.slice (some ⟨n, 0, none⟩) m c).ownBlock := fun e => by
  have e' : some k = some n := e
  injection e' with e'; omega
theorem row_le {n k B : Nat} {m c : Nat} (h : B ≤ n) (e : (Value.slice (some ⟨n, 0, none⟩) m c).ownBlock = some k) : B ≤ k := by
  have e' : some n = some k := e
  injection e' with e'; omega
set_option maxRecDepth 100000 in
set_option maxHeartbeats 2000000 in
theorem lcopied (N hn hl : Int) (A : Option Addr) (m c : Nat) (ws : List Wire) (w : World) (hr : Reads w w.heap.size 4 A m (wcells ws)) (hmc : m ≤ c) (hc : c ≤ maxLen) :
    Calls Try.prog 9 #[.agg #[.int .i64 N, .slice A m c, .int .i64 hn, .int .i64 hl]] w (RetO N hn hl (ws.take 40) w) := by
  obtain ⟨i0, hi0, hz0, hz1, hz2⟩ := info_parts wire_info
  obtain ⟨k1, b1, b2, b3⟩ := lay3 w #[.int .i64 N, .slice A m c, .int .i64 hn, .int .i64 hl] #[.int .i64 0, .slice none 0 0, .int .i64 0, .int .i64 0] #[.int .i64 N, .slice A m c, .int .i64 hn, .int .i64 hl] 26 26 26
  have hlen : ws.length = m := by have := hr.1; rw [wcells_length] at this; omega
  obtain ⟨m', hm'⟩ : ∃ m', min m 40 = m' := ⟨_, rfl⟩
  have hr' : Reads w w.heap.size 4 A m' (wcells (ws.take 40)) := by
    have h := hr.pre (k := m') (by omega)
    have e : ws.take 40 = ws.take m' := by
      rcases Nat.le_total m 40 with h4 | h4
      · rw [List.take_of_length_le (by omega), List.take_of_length_le (by omega)]
      · congr 1; omega
    rw [e, wcells_take]; exact h
  have h1c := wcells_one (ws.take 40)
  have hl' : (ws.take 40).length = m' := by rw [List.length_take]; omega
  have l2 : w.heap.size + 2 < (((w.alloc (.cells #[.int .i64 N, .slice A m c, .int .i64 hn, .int .i64 hl] 26)).alloc (.cells #[.int .i64 0, .slice none 0 0, .int .i64 0, .int .i64 0] 26)).alloc (.cells #[.int .i64 N, .slice A m c, .int .i64 hn, .int .i64 hl] 26)).heap.size := by simp
  have hs2 : (((w.alloc (.cells #[.int .i64 N, .slice A m c, .int .i64 hn, .int .i64 hl] 26)).alloc (.cells #[.int .i64 0, .slice none 0 0, .int .i64 0, .int .i64 0] 26)).alloc (.cells #[.int .i64 N, .slice A m c, .int .i64 hn, .int .i64 hl] 26)).heap.size = w.heap.size + 3 := by simp
  have hrW := hr'.below k1
  have hW : ∃ W, ((w.alloc (.cells #[.int .i64 N, .slice A m c, .int .i64 hn, .int .i64 hl] 26)).alloc (.cells #[.int .i64 0, .slice none 0 0, .int .i64 0, .int .i64 0] 26)).alloc (.cells #[.int .i64 N, .slice A m c, .int .i64 hn, .int .i64 hl] 26) = W := ⟨_, rfl⟩
  go_enter Try.func9, Try.ntmps9
  go_upto_region 2 with (fail)
  obtain ⟨W, hW⟩ := hW
  rw [hW] at k1 b1 b2 b3 hs2 hrW ⊢
  have hown0 := World.ownsRow_lit (base := W.heap.size) (e := 50) (size := 4) W #[] 0 (by simp) (by unfold maxLen; omega) rfl
  rw [hs2] at hown0
  have c00 := b1.cell 0
  have c01 := b1.cell 1
  simp at c00 c01
  have l1 := b1.lt
  rcases Nat.lt_or_ge 40 m with h4 | h4
  rotate_left
  · obtain rfl : m = m' := by omega
    have h4I : (m : Int) ≤ 40 := by omega
    have h4J : ¬ ((40 : Int) < (m : Int)) := by omega
    go_wp2_with (at_builtin; refine wpList_append_any (W.alloc (.cells #[] 50)) rfl (.tmp 5) (.tmp 12) 22 rfl (w.heap.size + 3) 50 i0 _ 4 32 Try.underlying22 hi0 hz0 hz1 hz2 rfl (by decide) _ 0 [] rfl hown0 w.heap.size A m c (wcells (ws.take 40)) rfl (hrW.alloc (by omega) _) h1c (by unfold maxLen; omega) (by omega) (by simp; omega) ?_; intro v' w' hown' hgr hat
                 obtain ⟨A', c', rfl⟩ := ownsRow_form hown'
                 have b2' := (b2.alloc (.cells #[] 50)).grown hgr (row_ne (by omega))
                 have b3' := (b3.alloc (.cells #[] 50)).grown hgr (row_ne (by omega))
                 have k2 : Below w.heap.size w w' := (k1.alloc k1.size (.cells #[] 50)).grown hgr (by simp; omega) (fun k e => row_le (by omega) e)
                 have d0 := b2'.cell 0
                 have d1 := b2'.cell 1
                 have d2 := b2'.cell 2
                 have d3 := b2'.cell 3
                 have e0 := b3'.cell 0
                 have e1 := b3'.cell 1
                 have e2 := b3'.cell 2
                 have e3 := b3'.cell 3
                 have fd0 := b2'.frozen 0
                 have fd1 := b2'.frozen 1
                 have fd2 := b2'.frozen 2
                 have fd3 := b2'.frozen 3
                 have fe1 := b3'.frozen 1
                 simp at d0 d1 d2 d3 e0 e1 e2 e3)
    have hown0' := hown'
    simp only [Nat.zero_add, List.nil_append] at hown0'
    have o5 := ownsOff.farRow (ownsOff.farRow (ownsOff.farRow (ownsOff.farRow (ownsOff.farRow hown0' (p := ⟨w.heap.size + 1 + 1, 1, none⟩) (by simp) (.slice A' m c')) (p := ⟨w.heap.size + 1, 0, none⟩) (by simp) (.int .i64 N)) (p := ⟨w.heap.size + 1, 1, none⟩) (by simp) (.slice A' m c')) (p := ⟨w.heap.size + 1, 2, none⟩) (by simp) (.int .i64 hn)) (p := ⟨w.heap.size + 1, 3, none⟩) (by simp) (.int .i64 hl)
    refine bodyPost_ret (v := .agg #[.int .i64 N, .slice A' m c', .int .i64 hn, .int .i64 hl]) (by simp [results, Try.results9, go_sem, d0, d1, d2, d3]) rfl ⟨A', _, c', rfl, o5.weak (by omega), (ownsRow_cap hown0').1, hl'.symm, ?_⟩
    exact ((((k2.setCell (by simp; omega) _).setCell (by simp) _).setCell (by simp) _).setCell (by simp) _).setCell (by simp) _
  · obtain rfl : 40 = m' := by omega
    have h4I : (40 : Int) < (m : Int) := by omega
    have h4K : (40 : Int) ≤ (c : Int) := by omega
    have h4J : ¬ ((m : Int) ≤ 40) := by omega
    have h4L : 40 ≤ c := by omega
    go_wp2_with (at_builtin; refine wpList_append_any (W.alloc (.cells #[] 50)) rfl (.tmp 5) (.tmp 12) 22 rfl (w.heap.size + 3) 50 i0 _ 4 32 Try.underlying22 hi0 hz0 hz1 hz2 rfl (by decide) _ 0 [] rfl hown0 w.heap.size A 40 c (wcells (ws.take 40)) rfl (hrW.alloc (by omega) _) h1c (by unfold maxLen; omega) (by omega) (by simp; omega) ?_; intro v' w' hown' hgr hat
                 obtain ⟨A', c', rfl⟩ := ownsRow_form hown'
                 have b2' := (b2.alloc (.cells #[] 50)).grown hgr (row_ne (by omega))
                 have b3' := (b3.alloc (.cells #[] 50)).grown hgr (row_ne (by omega))
                 have k2 : Below w.heap.size w w' := (k1.alloc k1.size (.cells #[] 50)).grown hgr (by simp; omega) (fun k e => row_le (by omega) e)
                 have d0 := b2'.cell 0
                 have d1 := b2'.cell 1
                 have d2 := b2'.cell 2
                 have d3 := b2'.cell 3
                 have e0 := b3'.cell 0
                 have e1 := b3'.cell 1
                 have e2 := b3'.cell 2
                 have e3 := b3'.cell 3
                 have fd0 := b2'.frozen 0
                 have fd1 := b2'.frozen 1
                 have fd2 := b2'.frozen 2
                 have fd3 := b2'.frozen 3
                 have fe1 := b3'.frozen 1
                 simp at d0 d1 d2 d3 e0 e1 e2 e3)
    have hown0' := hown'
    simp only [Nat.zero_add, List.nil_append] at hown0'
    have o5 := ownsOff.farRow (ownsOff.farRow (ownsOff.farRow (ownsOff.farRow (ownsOff.farRow hown0' (p := ⟨w.heap.size + 1 + 1, 1, none⟩) (by simp) (.slice A' 40 c')) (p := ⟨w.heap.size + 1, 0, none⟩) (by simp) (.int .i64 N)) (p := ⟨w.heap.size + 1, 1, none⟩) (by simp) (.slice A' 40 c')) (p := ⟨w.heap.size + 1, 2, none⟩) (by simp) (.int .i64 hn)) (p := ⟨w.heap.size + 1, 3, none⟩) (by simp) (.int .i64 hl)
    refine bodyPost_ret (v := .agg #[.int .i64 N, .slice A' 40 c', .int .i64 hn, .int .i64 hl]) (by simp [results, Try.results9, go_sem, d0, d1, d2, d3]) rfl ⟨A', _, c', rfl, o5.weak (by omega), (ownsRow_cap hown0').1, hl'.symm, ?_⟩
    exact ((((k2.setCell (by simp; omega) _).setCell (by simp) _).setCell (by simp) _).setCell (by simp) _).setCell (by simp) _
end Go.Proofs.Ytadpenphiagdmaa
