/- walks -/
import Derived.Test.YtadpenphiagdmaaW6
namespace Go.Proofs.Ytadpenphiagdmaa
open Go.RowKit
set_option linter.unusedVariables false
set_option linter.unusedSimpArgs false

theorem mayB_net {N : Int} {ws : List Wire} {hn hl : Int} (h : mayB N ws hn hl = true) : NetOk N ws hn := by
  simp only [mayB, Bool.and_eq_true, decide_eq_true_eq] at h
  exact net_of h.1.1.1.1.1 h.1.1.1.1.2 h.1.1.2
def rpeerOf (N : Int) (ws : List Wire) (hn hl a b : Int) : Option Pt := if mayB N ws hn hl then peerL ws a b else none

set_option maxRecDepth 100000 in
set_option maxHeartbeats 600000 in
theorem rPeer (N hn hl a b : Int) (A : Option Addr) (m c : Nat) (ws : List Wire) (w : World) (hr : Reads w w.heap.size 4 A m (wcells ws)) (hm : m ≤ 1000000) :
    Calls Try.prog 21 #[.agg #[.int .i64 N, .slice A m c, .int .i64 hn, .int .i64 hl], .agg #[.int .i64 a, .int .i64 b]] w (RetV (peerV (rpeerOf N ws hn hl a b)) w) := by
  obtain ⟨k1, k2, k3, k4⟩ := lay3 w #[.int .i64 N, .slice A m c, .int .i64 hn, .int .i64 hl] #[.int .i64 a, .int .i64 b] #[.int .i64 0, .int .i64 0] 26 24 24
  have hr0 := hr.up k1 (by simp <;> omega)
  have HO := Lib.hid (rMay N hn hl A m c ws (((w.alloc (.cells #[.int .i64 N, .slice A m c, .int .i64 hn, .int .i64 hl] 26)).alloc (.cells #[.int .i64 a, .int .i64 b] 24)).alloc (.cells #[.int .i64 0, .int .i64 0] 24)) hr0 hm)
  cases hmay : mayB N ws hn hl
  · have e : rpeerOf N ws hn hl a b = none := by simp [rpeerOf, hmay]
    rw [e]
    have Hmay := Lib.hid hmay; clear hmay e
    go_enter Try.func21, Try.ntmps21
    go_wp2_with (go_at_call 19; refine HO.out.mono ?_; rintro e w1 ⟨rfl, hb1⟩; rw [Hmay.out]
                 have b4 := k4.call hb1
                 have c40 := b4.cell 0
                 have c41 := b4.cell 1
                 have f40 := b4.frozen 0
                 have f41 := b4.frozen 1
                 simp at c40 c41)
    refine bodyPost_ret (v := peerV none) (by simp [results, Try.results21, go_sem, c40, c41, peerV]) rfl ⟨rfl, ?_⟩
    exact ((k1.call (by simp <;> omega) hb1).setCell (by simp <;> omega) _).setCell (by simp <;> omega) _
  · have e : rpeerOf N ws hn hl a b = peerL ws a b := by simp [rpeerOf, hmay]
    rw [e]
    have Hmay := Lib.hid hmay; clear hmay e
    obtain ⟨q, hq⟩ : ∃ q, peerL ws a b = q := ⟨_, rfl⟩
    have HP := Lib.hid (fun w hr => rpeer N hn hl a b A m c ws w hr hm)
    rw [hq] at HP ⊢
    clear hq
    go_enter Try.func21, Try.ntmps21
    go_wp2_with (first
      | (go_at_call 19; refine HO.out.mono ?_; rintro e w1 ⟨rfl, hb1⟩; rw [Hmay.out]
         have b2 := k2.call hb1
         have b3 := k3.call hb1
         have b4 := k4.call hb1
         have hB := k1.call (by simp <;> omega) hb1
         have hr1 := hr0.call hb1
         have c20 := b2.cell 0
         have c21 := b2.cell 1
         have c22 := b2.cell 2
         have c23 := b2.cell 3
         have c30 := b3.cell 0
         have c31 := b3.cell 1
         simp at c20 c21 c22 c23 c30 c31)
      | (go_at_call 29; refine (HP.out _ hr1).mono ?_; rintro e w2 ⟨rfl, hb2⟩
         have b4' := b4.call hb2
         have c40 := b4'.cell 0
         have c41 := b4'.cell 1
         have f40 := b4'.frozen 0
         have f41 := b4'.frozen 1
         simp at c40 c41
         rcases q with _ | ⟨q1, q2⟩ <;> simp only [peerV]))
    · refine bodyPost_ret (v := peerV none) (by simp [results, Try.results21, go_sem, c40, c41, peerV]) rfl ⟨rfl, ?_⟩
      exact ((hB.call (by have := b2.lt; omega) hb2).setCell (by simp <;> omega) _).setCell (by simp <;> omega) _
    · refine bodyPost_ret (v := peerV (some (q1, q2))) (by simp [results, Try.results21, go_sem, c40, c41, peerV]) rfl ⟨rfl, ?_⟩
      exact ((hB.call (by have := b2.lt; omega) hb2).setCell (by simp <;> omega) _).setCell (by simp <;> omega) _

/-- A slice of ints and an error number. -/
def RetSE (xs : List Int) (k : Int) (w : World) (e : Ending) (w' : World) : Prop :=
  ∃ A c, e = .returned (.tuple #[.slice A xs.length c, .int .i64 k]) ∧ Reads w' w'.heap.size 1 A xs.length (icells xs) ∧ Below w.heap.size w w'
theorem icells_length (xs : List Int) : (icells xs).length = xs.length := by simp [icells]
theorem RetSE.of_own {w w' : World} {base e n : Nat} {v : Value} {xs : List Int} {k : Int} (h : w'.ownsRow base e 1 v n (icells xs)) (hB : Below w.heap.size w w') : RetSE xs k w (.returned (.tuple #[v, .int .i64 k])) w' := by
  have hn : xs.length = n := by have := h.1; rw [icells_length] at this; omega
  subst hn
  rcases h.2 with ⟨rfl, h0⟩ | ⟨g, cap, cur, rfl, _⟩
  · rw [RetSE, h0]
    rw [h0] at h
    exact ⟨none, 0, rfl, Reads.of_own h, hB⟩
  · exact ⟨_, _, rfl, Reads.of_own h, hB⟩
theorem RetSE.nil {w w' : World} {k : Int} (hB : Below w.heap.size w w') : RetSE [] k w (.returned (.tuple #[.slice none 0 0, .int .i64 k])) w' :=
  ⟨none, 0, rfl, Reads.none_, hB⟩
theorem int_info : (Try.prog.info? 3).map (fun i => (i.zero, i.size, i.bytes)) = some (some (.int .i64 0), 1, 8) := by kernel_rfl

def rtreeOf (N : Int) (ws : List Wire) (hn hl : Int) : List Int := (List.range N.toNat).map fun i : Nat => (upOf ws hn hl (i : Int)).2
def rTreeR (N : Int) (ws : List Wire) (hn hl : Int) : List Int × Int := if mayB N ws hn hl then (rtreeOf N ws hn hl, 0) else ([], 2)

set_option maxRecDepth 100000 in
set_option maxHeartbeats 600000 in
theorem rTree (N hn hl : Int) (A : Option Addr) (m c : Nat) (ws : List Wire) (w : World) (hr : Reads w w.heap.size 4 A m (wcells ws)) (hm : m ≤ 1000000) :
    Calls Try.prog 11 #[.agg #[.int .i64 N, .slice A m c, .int .i64 hn, .int .i64 hl]] w (RetSE (rTreeR N ws hn hl).1 (rTreeR N ws hn hl).2 w) := by
  obtain ⟨i0, hi0, hz0, hz1, hz2⟩ := info_parts int_info
  obtain ⟨k1, k2⟩ := lay1 w #[.int .i64 N, .slice A m c, .int .i64 hn, .int .i64 hl] 26
  have hr0 := hr.up k1 (by simp <;> omega)
  have HO := Lib.hid (rMay N hn hl A m c ws (w.alloc (.cells #[.int .i64 N, .slice A m c, .int .i64 hn, .int .i64 hl] 26)) hr0 hm)
  cases hmay : mayB N ws hn hl
  · have e : rTreeR N ws hn hl = ([], 2) := by simp [rTreeR, hmay]
    rw [e]
    have Hmay := Lib.hid hmay; clear hmay e
    go_enter Try.func11, Try.ntmps11
    go_wp2_with (go_at_call 19; refine HO.out.mono ?_; rintro e w1 ⟨rfl, hb1⟩; rw [Hmay.out])
    go_ret2
    exact RetSE.nil (k1.call (by simp <;> omega) hb1)
  · have e : rTreeR N ws hn hl = (rtreeOf N ws hn hl, 0) := by simp [rTreeR, hmay]
    rw [e]
    have Hnet := Lib.hid (mayB_net hmay)
    have Hmay := Lib.hid hmay; clear hmay e
    go_enter Try.func11, Try.ntmps11
    go_wp2_with (go_at_call 19; refine HO.out.mono ?_; rintro e w1 ⟨rfl, hb1⟩; rw [Hmay.out])
    have b2 := k2.call hb1
    have hB := k1.call (by simp <;> omega) hb1
    have hr1 := hr0.call hb1
    go_loopw [4, 5] (fun v i wr => ∃ k : Nat, i = .int .i64 k ∧ (k : Int) ≤ N ∧ wr.ownsRow (w.heap.size + 1) 3 1 v k (icells ((List.range k).map fun i : Nat => (upOf ws hn hl (i : Int)).2)) ∧ Below w.heap.size w wr ∧
      Blk wr w.heap.size 26 #[.int .i64 N, .slice A m c, .int .i64 hn, .int .i64 hl]) (fun _ i _ => N.toNat - (intOf i).toNat)
    case atStart => exact ⟨0, rfl, by have := Hnet.out.n1; omega, World.ownsRow_nil _ _ _ _, hB, b2⟩
    case round =>
      clear b2 hB hr1 hb1
      obtain ⟨k, rfl, hk, hown, hB, b0⟩ := hrel
      have c00 := b0.cell 0
      have c01 := b0.cell 1
      have c02 := b0.cell 2
      have c03 := b0.cell 3
      simp at c00 c01 c02 c03
      have b0s := b0.lt
      have hr1 := hr.up hB (Nat.le_of_lt b0s)
      have hN8 := Hnet.out.n8
      have hN1 := Hnet.out.n1
      by_cases hlt : (k : Int) < N
      · go_wp2_with (first
          | (go_at_call 27; refine (rup N hn hl A m c ws k _ hr1 hm Hnet.out).mono ?_; rintro e w2 ⟨rfl, hb2⟩; unfold ptV
             have hown2 := hown.below hb2
             have b0' := b0.call hb2
             have hB' := hB.call (Nat.le_of_lt b0s) hb2
             have b0s' := b0'.lt)
          | (at_builtin; refine app_own Try.underlying28 hi0 hz0 hz1 hz2 rfl (by decide) (hown2.alloc _) (by simp <;> omega) rfl (.tmp 15) (.tmp 20) rfl rfl w2.heap.size 1 1 #[.int .i64 (upOf ws hn hl k).2] rfl (Blk.new w2 _ _) rfl (by simp [Value.oneCell']) (by omega) (by omega) ?_; intro v' w' hown3 _ hB2 _))
        go_roundw
        case rel =>
          refine ⟨k + 1, by go_num, by omega, ?_, (hB'.alloc (by omega) _).trans (hB2.mono (by omega)), (b0'.alloc _).below hB2 (by omega)⟩
          rw [List.range_succ, List.map_append, icells, List.map_append]; exact hown3
        case measure => simp [intOf]; omega
      · obtain rfl : N = k := by omega
        go_wp2
        go_ret2
        exact RetSE.of_own hown hB
end Go.Proofs.Ytadpenphiagdmaa
