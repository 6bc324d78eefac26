/- The law TopoTrees walked. -/
import Derived.Test.YtadpenphiagdmaaL3
namespace Go.Proofs.Ytadpenphiagdmaa
open Go.RowKit
set_option linter.unusedVariables false
set_option linter.unusedSimpArgs false
theorem rTreeR_len (N hn hl : Int) (ws : List Wire) : (rTreeR N ws hn hl).1.length ≤ 100 := by
  unfold rTreeR
  split
  · rename_i h
    have := (mayB_net h).n8
    simp [rtreeOf]; omega
  · simp
theorem rChildrenR_len (N hn hl node : Int) (ws : List Wire) : (rChildrenR N ws hn hl node).1.length ≤ 100 := by
  have h4 : ∀ n, (rchildren ws hn hl node n).length ≤ n := fun n => by
    simp only [rchildren, List.length_map]
    exact Nat.le_trans (List.length_filter_le _ _) (by simp)
  unfold rChildrenR
  split
  · split
    · simp
    · have := h4 4
      simp; omega
  · simp
theorem rRouteR_len (N hn hl fr dn : Int) (ws : List Wire) : (rRouteR N ws hn hl fr dn).1.length ≤ 100 := by
  unfold rRouteR
  split
  · rename_i hmay
    split
    · simp
    · rename_i hin
      obtain ⟨a, ha, hal⟩ := path_all hmay (x := fr) (by omega) (by omega)
      obtain ⟨b, hb, hbl⟩ := path_all hmay (x := dn) (by omega) (by omega)
      simp only [ha, hb, Option.getD_some, routeL, ups, downs, List.length_append, List.length_map, List.length_reverse, List.length_take]
      omega
  · simp
/-- A box of four cells is written anew. -/
theorem box4 {w w1 : World} {g base e size n : Nat} {t : TypeId} {cs : Array Value} {v : Value} {xs : List Value} (hb : Below w.heap.size w w1) (b1 : Blk w1 g t cs) (hz : cs.size = 4) (hg : w.heap.size ≤ g)
    (ho : w1.ownsRow base e size v n xs) (hgb : g < base) (v0 v1 v2 v3 : Value) :
    Below w.heap.size w ((((w1.setCell ⟨g, 0, none⟩ v0).setCell ⟨g, 1, none⟩ v1).setCell ⟨g, 2, none⟩ v2).setCell ⟨g, 3, none⟩ v3) ∧
    Blk ((((w1.setCell ⟨g, 0, none⟩ v0).setCell ⟨g, 1, none⟩ v1).setCell ⟨g, 2, none⟩ v2).setCell ⟨g, 3, none⟩ v3) g t #[v0, v1, v2, v3] ∧
    ((((w1.setCell ⟨g, 0, none⟩ v0).setCell ⟨g, 1, none⟩ v1).setCell ⟨g, 2, none⟩ v2).setCell ⟨g, 3, none⟩ v3).ownsRow base e size v n xs := by
  refine ⟨(((hb.setCell hg _).setCell hg _).setCell hg _).setCell hg _, ?_, ownsOff.farRow (ownsOff.farRow (ownsOff.farRow (ownsOff.farRow ho (by exact hgb) _) (by exact hgb) _) (by exact hgb) _) (by exact hgb) _⟩
  have h1 := (((b1.set_ 0 v0).set_ 1 v1).set_ 2 v2).set_ 3 v3
  have e : (((cs.setIfInBounds 0 v0).setIfInBounds 1 v1).setIfInBounds 2 v2).setIfInBounds 3 v3 = #[v0, v1, v2, v3] := by
    obtain ⟨l⟩ := cs
    match l, hz with
    | [a, b, c, d], _ => rfl
  rwa [e] at h1
theorem two_trees (N hn hl : Int) (ws : List Wire) : ∃ (T : List Int) (k : Int), T.length ≤ 100 ∧
    (∀ A m c w, Reads w w.heap.size 4 A m (wcells ws) → m ≤ 1000000 → Calls Try.prog 10 #[.agg #[.int .i64 N, .slice A m c, .int .i64 hn, .int .i64 hl]] w (RetSE T k w)) ∧
    (∀ A m c w, Reads w w.heap.size 4 A m (wcells ws) → m ≤ 1000000 → Calls Try.prog 11 #[.agg #[.int .i64 N, .slice A m c, .int .i64 hn, .int .i64 hl]] w (RetSE T k w)) :=
  ⟨_, _, rTreeR_len N hn hl ws, fun A m c w hr hm => by have := tTree N hn hl A m c ws w hr hm; rwa [tTreeR_eq] at this, fun A m c w hr hm => rTree N hn hl A m c ws w hr hm⟩
theorem two_children (N hn hl : Int) (ws : List Wire) : ∃ (C : Int → List Int) (k : Int → Int), (∀ x, (C x).length ≤ 100) ∧
    (∀ x A m c w, Reads w w.heap.size 4 A m (wcells ws) → m ≤ 1000000 → Calls Try.prog 13 #[.agg #[.int .i64 N, .slice A m c, .int .i64 hn, .int .i64 hl], .int .i64 x] w (RetSE (C x) (k x) w)) ∧
    (∀ x A m c w, Reads w w.heap.size 4 A m (wcells ws) → m ≤ 1000000 → Calls Try.prog 14 #[.agg #[.int .i64 N, .slice A m c, .int .i64 hn, .int .i64 hl], .int .i64 x] w (RetSE (C x) (k x) w)) :=
  ⟨fun x => (rChildrenR N ws hn hl x).1, fun x => (rChildrenR N ws hn hl x).2, fun x => rChildrenR_len N hn hl x ws, fun x A m c w hr hm => by have := tChildren N hn hl A m c ws x w hr hm; rwa [tChildrenR_eq] at this, fun x A m c w hr hm => rChildren N hn hl A m c ws x w hr hm⟩
theorem two_routes (N hn hl : Int) (ws : List Wire) : ∃ (C : Int → Int → List Int) (k : Int → Int → Int), (∀ x y, (C x y).length ≤ 100) ∧
    (∀ x y A m c w, Reads w w.heap.size 4 A m (wcells ws) → m ≤ 1000000 → Calls Try.prog 15 #[.agg #[.int .i64 N, .slice A m c, .int .i64 hn, .int .i64 hl], .int .i64 x, .int .i64 y] w (RetSE (C x y) (k x y) w)) ∧
    (∀ x y A m c w, Reads w w.heap.size 4 A m (wcells ws) → m ≤ 1000000 → Calls Try.prog 16 #[.agg #[.int .i64 N, .slice A m c, .int .i64 hn, .int .i64 hl], .int .i64 x, .int .i64 y] w (RetSE (C x y) (k x y) w)) :=
  ⟨fun x y => (rRouteR N ws hn hl x y).1, fun x y => (rRouteR N ws hn hl x y).2, fun x y => rRouteR_len N hn hl x y ws, fun x y A m c w hr hm => tRoute N hn hl A m c ws x y w hr hm, fun x y A m c w hr hm => rRoute N hn hl A m c ws x y w hr hm⟩
theorem same_self (A B : Option Addr) (c d : Nat) (xs : List Int) (w : World) (h : xs.length ≤ 100) (hx : Reads w w.heap.size 1 A xs.length (icells xs)) (hy : Reads w w.heap.size 1 B xs.length (icells xs)) :
    Calls Try.prog 12 #[.slice A xs.length c, .slice B xs.length d] w (RetV (.bool true) w) := by
  have := rSame A B xs.length c xs.length d xs xs w hx hy (by omega)
  simpa using this
set_option maxRecDepth 100000 in
set_option maxHeartbeats 2000000 in
theorem trees_walk (N hn hl : Int) (A : Option Addr) (m c : Nat) (ws : List Wire) (x y : Int) (w : World) (hr : Reads w w.heap.size 4 A m (wcells ws)) (hmc : m ≤ c) (hc : c ≤ maxLen) :
    Calls Try.prog 3 #[.agg #[.int .i64 N, .slice A m c, .int .i64 hn, .int .i64 hl], .int .i64 x, .int .i64 y] w (RetV (.bool true) w) := by
  obtain ⟨k0, b0⟩ := lay1 w #[.int .i64 N, .slice A m c, .int .i64 hn, .int .i64 hl] 26
  have h40 : (ws.take 40).length ≤ 40 := by rw [List.length_take]; omega
  have H9 := lcopied N hn hl A m c ws (w.alloc (.cells #[.int .i64 N, .slice A m c, .int .i64 hn, .int .i64 hl] 26)) (hr.up k0 k0.size) hmc hc
  obtain ⟨ws1, hw1⟩ : ∃ ws1, ws.take 40 = ws1 := ⟨_, rfl⟩
  rw [hw1] at H9 h40
  clear hw1 hr
  have H9' := Lib.hid H9; clear H9
  go_enter Try.func3, Try.ntmps3
  go_upto_region 2 with (first
    | (go_at_call 9; refine H9'.out.mono ?_; clear H9'; rintro e w1 ⟨A1, m1, c1, rfl, ho1, _, hm1, hb1⟩
       have Hm1 := Lib.hid hm1
       clear hm1
       have b1 := b0.call hb1
       have l1 := b1.lt
       have c10 := b1.cell 0
       have c11 := b1.cell 1
       have c12 := b1.cell 2
       have c13 := b1.cell 3
       simp at c10 c11 c12 c13
       have f10 := b1.frozen 0
       have f11 := b1.frozen 1
       have f12 := b1.frozen 2
       have f13 := b1.frozen 3
       ))
  rw [← Hm1.out] at h40
  clear Hm1
  have hk1 := k0.call k0.size hb1
  have hbx := box4 hk1 b1 (by rfl) (Nat.le_refl _) ho1 (by simp) (.int .i64 N) (.slice A1 m1 c1) (.int .i64 hn) (.int .i64 hl)
  obtain ⟨W, hW⟩ : ∃ W, ((((w1.setCell ⟨w.heap.size, 0, none⟩ (.int .i64 N)).setCell ⟨w.heap.size, 1, none⟩ (.slice A1 m1 c1)).setCell ⟨w.heap.size, 2, none⟩ (.int .i64 hn)).setCell ⟨w.heap.size, 3, none⟩ (.int .i64 hl)) = W := ⟨_, rfl⟩
  rw [hW] at hbx ⊢
  obtain ⟨kW, bW, oW⟩ := hbx
  have rW := Reads.of_own oW
  clear hW oW ho1 f10 f11 f12 f13 c10 c11 c12 c13 b1 hk1 hb1 k0 b0 l1
  obtain ⟨T, kT, hT, H10, H11⟩ := two_trees N hn hl ws1
  obtain ⟨C, kC, hC, H13, H14⟩ := two_children N hn hl ws1
  obtain ⟨R, kR, hR, H15, H16⟩ := two_routes N hn hl ws1
  have HT := Lib.hid hT; clear hT
  have HC := Lib.hid hC; clear hC
  have HR := Lib.hid hR; clear hR
  have G10 := Lib.hid H10; clear H10
  have G11 := Lib.hid H11; clear H11
  have G13 := Lib.hid H13; clear H13
  have G14 := Lib.hid H14; clear H14
  have G15 := Lib.hid H15; clear H15
  have G16 := Lib.hid H16; clear H16
  have G12 := Lib.hid same_self
  have c10 := bW.cell 0
  have c11 := bW.cell 1
  have c12 := bW.cell 2
  have c13 := bW.cell 3
  simp at c10 c11 c12 c13
  go_upto_region 6 with (first
    | (go_at_call 10; refine (G10.out _ _ _ _ rW (by omega)).mono ?_; clear G10; rintro e w2 ⟨A2, c2, rfl, r2, hb2⟩
       have rW2 := rW.call hb2
       have b2 := bW.call hb2
       have k2 := kW.call kW.size hb2
       have d10 := b2.cell 0
       have d11 := b2.cell 1
       have d12 := b2.cell 2
       have d13 := b2.cell 3
       simp at d10 d11 d12 d13
       )
    | (go_at_call 11; refine (G11.out _ _ _ _ rW2 (by omega)).mono ?_; clear G11; rintro e w3 ⟨A3, c3, rfl, r3, hb3⟩
       have r23 := r2.call hb3
       have rW3 := rW2.call hb3
       have b3 := b2.call hb3
       have k3 := k2.call k2.size hb3
       )
    | (go_at_call 12; refine (G12.out _ _ _ _ _ _ HT.out r23 r3).mono ?_; rintro e w4 ⟨rfl, hb4⟩
       have rW4 := rW3.call hb4
       have b4 := b3.call hb4
       have k4 := k3.call k3.size hb4
       ))
  have Gw := Lib.hid lworks
  clear c10 c11 c12 c13 d10 d11 d12 d13 b3 b2 bW rW rW2 rW3 r2 r3 r23 kW k2 k3 hb2 hb3 hb4
  go_wp2
  go_loopw [11] (fun i wr => ∃ k : Nat, i = .int .i64 k ∧ k ≤ 64 ∧ Below w.heap.size w wr ∧ Blk wr w.heap.size 26 #[.int .i64 N, .slice A1 m1 c1, .int .i64 hn, .int .i64 hl] ∧ Reads wr wr.heap.size 4 A1 m1 (wcells ws1)) (fun i _ => 64 - (intOf i).toNat)
  case atStart => exact ⟨0, rfl, by omega, k4, b4, rW4⟩
  case round =>
    obtain ⟨k, rfl, hk, kB, bB, rB⟩ := hrel
    clear k4 b4 rW4
    have c10 := bB.cell 0
    have c11 := bB.cell 1
    have c12 := bB.cell 2
    have c13 := bB.cell 3
    simp at c10 c11 c12 c13
    by_cases hlt : k < 64
    · have h1 : (k : Int) < 64 := by omega
      by_cases hz : k = 0
      all_goals
        have tok1 : True := trivial
        go_wp2_with (first
          | (go_at_call 13; refine (G13.out _ _ _ _ _ rB (by omega)).mono ?_; rintro e w2 ⟨A2, c2, rfl, r2, hb2⟩
             have rW2 := rB.call hb2
             have b2 := bB.call hb2
             have k2 := kB.call kB.size hb2
             have d10 := b2.cell 0
             have d11 := b2.cell 1
             have d12 := b2.cell 2
             have d13 := b2.cell 3
             simp at d10 d11 d12 d13
             )
          | (go_at_call 14; refine (G14.out _ _ _ _ _ rW2 (by omega)).mono ?_; rintro e w3 ⟨A3, c3, rfl, r3, hb3⟩
             have r23 := r2.call hb3
             have rW3 := rW2.call hb3
             have b3 := b2.call hb3
             have k3 := k2.call k2.size hb3
             have e10 := b3.cell 0
             have e11 := b3.cell 1
             have e12 := b3.cell 2
             have e13 := b3.cell 3
             simp at e10 e11 e12 e13
             )
          | (go_at_call 15; refine (G15.out _ _ _ _ _ _ rW3 (by omega)).mono ?_; rintro e w4 ⟨A4, c4, rfl, r4, hb4⟩
             have r24 := r23.call hb4
             have r34 := r3.call hb4
             have rW4 := rW3.call hb4
             have b4 := b3.call hb4
             have k4 := k3.call k3.size hb4
             have g10 := b4.cell 0
             have g11 := b4.cell 1
             have g12 := b4.cell 2
             have g13 := b4.cell 3
             simp at g10 g11 g12 g13
             )
          | (go_at_call 16; refine (G16.out _ _ _ _ _ _ rW4 (by omega)).mono ?_; rintro e w5 ⟨A5, c5, rfl, r5, hb5⟩
             have r25 := r24.call hb5
             have r35 := r34.call hb5
             have r45 := r4.call hb5
             have rW5 := rW4.call hb5
             have b5 := b4.call hb5
             have k5 := k4.call k4.size hb5
             )
          | (go_at_call 12; have _t := tok1; refine (G12.out _ _ _ _ _ _ (HC.out _) r25 r35).mono ?_; clear tok1; rintro e w6 ⟨rfl, hb6⟩
             have r46 := r45.call hb6
             have r56 := r5.call hb6
             have rW6 := rW5.call hb6
             have b6 := b5.call hb6
             have k6 := k5.call k5.size hb6
             )
          | (go_at_call 12; refine (G12.out _ _ _ _ _ _ (HR.out _ _) r46 r56).mono ?_; rintro e w7 ⟨rfl, hb7⟩
             have rW7 := rW6.call hb7
             have b7 := b6.call hb7
             have k7 := k6.call k6.size hb7
             ))
        go_roundw
        case rel => exact ⟨k + 1, by go_num, by omega, k7, b7, rW7⟩
        case measure => simp [intOf]; omega
    · go_wp2_with (first
        | (go_at_call 17; refine (Gw.out _).mono ?_; rintro e w2 ⟨rfl, hb2⟩
           have k2 := kB.call kB.size hb2))
      go_ret
      exact ⟨rfl, k2⟩
end Go.Proofs.Ytadpenphiagdmaa
