/- walks -/
import Derived.Test.YtadpenphiagdmaaW7
namespace Go.Proofs.Ytadpenphiagdmaa
open Go.RowKit
set_option linter.unusedVariables false
set_option linter.unusedSimpArgs false

def childB (ws : List Wire) (hn hl node : Int) (k : Nat) : Bool := match peerL ws node k with
  | some q => q.1 != hn && portEq (upOf ws hn hl q.1).1 (upOf ws hn hl q.1).2 q.1 q.2
  | none => false
def rchildren (ws : List Wire) (hn hl node : Int) (n : Nat) : List Int := ((List.range n).filter (childB ws hn hl node)).map (fun k : Nat => (k : Int))
def rChildrenR (N : Int) (ws : List Wire) (hn hl node : Int) : List Int × Int :=
  if mayB N ws hn hl then (if node < 0 ∨ N ≤ node then ([], 4) else (rchildren ws hn hl node 4, 0)) else ([], 2)
theorem rchildren_yes {ws : List Wire} {hn hl node : Int} {n : Nat} (h : childB ws hn hl node n = true) : rchildren ws hn hl node (n + 1) = rchildren ws hn hl node n ++ [(n : Int)] := by
  simp [rchildren, List.range_succ, h]
theorem rchildren_no {ws : List Wire} {hn hl node : Int} {n : Nat} (h : childB ws hn hl node n = false) : rchildren ws hn hl node (n + 1) = rchildren ws hn hl node n := by
  simp [rchildren, List.range_succ, h]

set_option maxRecDepth 100000 in
set_option maxHeartbeats 1000000 in
theorem rChildren (N hn hl : Int) (A : Option Addr) (m c : Nat) (ws : List Wire) (node : Int) (w : World) (hr : Reads w w.heap.size 4 A m (wcells ws)) (hm : m ≤ 1000000) :
    Calls Try.prog 14 #[.agg #[.int .i64 N, .slice A m c, .int .i64 hn, .int .i64 hl], .int .i64 node] w (RetSE (rChildrenR N ws hn hl node).1 (rChildrenR N ws hn hl node).2 w) := by
  obtain ⟨i0, hi0, hz0, hz1, hz2⟩ := info_parts int_info
  obtain ⟨k1, k2⟩ := lay1 w #[.int .i64 N, .slice A m c, .int .i64 hn, .int .i64 hl] 26
  have hr0 := hr.up k1 (by simp <;> omega)
  have HO := Lib.hid (rMay N hn hl A m c ws (w.alloc (.cells #[.int .i64 N, .slice A m c, .int .i64 hn, .int .i64 hl] 26)) hr0 hm)
  cases hmay : mayB N ws hn hl
  · have e : rChildrenR N ws hn hl node = ([], 2) := by simp [rChildrenR, hmay]
    rw [e]
    have Hmay := Lib.hid hmay; clear hmay e
    go_enter Try.func14, Try.ntmps14
    go_wp2_with (go_at_call 19; refine HO.out.mono ?_; rintro e w1 ⟨rfl, hb1⟩; rw [Hmay.out])
    go_ret2
    exact RetSE.nil (k1.call (by simp <;> omega) hb1)
  have Hnet := Lib.hid (mayB_net hmay)
  have Hmay := Lib.hid hmay
  by_cases hlow : node < 0
  · have e : rChildrenR N ws hn hl node = ([], 4) := by simp [rChildrenR, hmay, hlow]
    rw [e]
    clear hmay e
    go_enter Try.func14, Try.ntmps14
    go_wp2_with (go_at_call 19; refine HO.out.mono ?_; rintro e w1 ⟨rfl, hb1⟩; rw [Hmay.out]
                 have c00 := (k2.call hb1).cell 0
                 simp at c00)
    all_goals first
      | (exfalso; omega)
      | (go_ret2; exact RetSE.nil (k1.call (by simp <;> omega) hb1))
  by_cases hhigh : N ≤ node
  · have e : rChildrenR N ws hn hl node = ([], 4) := by simp [rChildrenR, hmay, hhigh]
    rw [e]
    clear hmay e
    go_enter Try.func14, Try.ntmps14
    go_wp2_with (go_at_call 19; refine HO.out.mono ?_; rintro e w1 ⟨rfl, hb1⟩; rw [Hmay.out]
                 have c00 := (k2.call hb1).cell 0
                 simp at c00)
    all_goals first
      | (exfalso; omega)
      | (go_ret2; exact RetSE.nil (k1.call (by simp <;> omega) hb1))
  have e : rChildrenR N ws hn hl node = (rchildren ws hn hl node 4, 0) := by simp only [rChildrenR, hmay, if_true]; rw [if_neg (by omega)]
  rw [e]
  clear hmay e
  have hd1 : decide (N ≤ node) = false := by simp; omega
  have hd2 : decide (node < 0) = false := by simp; omega
  go_enter Try.func14, Try.ntmps14
  go_wp2_with (go_at_call 19; refine HO.out.mono ?_; rintro e w1 ⟨rfl, hb1⟩; rw [Hmay.out]
               have c00 := (k2.call hb1).cell 0
               simp at c00)
  have b2 := k2.call hb1
  have hB := k1.call (by simp <;> omega) hb1
  clear hd1 hd2 k2 hr0
  go_loopw [6, 7] (fun v i wr => ∃ (k : Nat) (xs : List Int), i = .int .i64 k ∧ k ≤ 4 ∧ Hid (rchildren ws hn hl node k = xs) ∧ wr.ownsRow (w.heap.size + 1) 3 1 v xs.length (icells xs) ∧ Below w.heap.size w wr ∧
      Blk wr w.heap.size 26 #[.int .i64 N, .slice A m c, .int .i64 hn, .int .i64 hl]) (fun _ i _ => 4 - (intOf i).toNat)
  case atStart => exact ⟨0, [], rfl, by omega, rfl, World.ownsRow_nil _ _ _ _, hB, b2⟩
  case round =>
    clear b2 hB hb1 c00
    obtain ⟨k, xs, rfl, hk, Hxs, hown, hB, b0⟩ := hrel
    have c00 := b0.cell 0
    have c01 := b0.cell 1
    have c02 := b0.cell 2
    have c03 := b0.cell 3
    simp at c00 c01 c02 c03
    have b0s := b0.lt
    have hr1 := hr.up hB (Nat.le_of_lt b0s)
    by_cases hlt : k < 4
    · obtain ⟨q, hq⟩ : ∃ q, peerL ws node k = q := ⟨_, rfl⟩
      have HP := Lib.hid (fun w hr => rpeer N hn hl node k A m c ws w hr hm)
      rw [hq] at HP
      have Hq := Lib.hid hq; clear hq
      go_upto_region 11 with (
        go_at_call 29
        refine (HP.out _ (hr1.alloc' _)).mono ?_
        rintro e w2 ⟨rfl, hb2⟩
        have b0' := (b0.alloc _).call hb2
        have hown2 := (hown.alloc _).below hb2
        have hB' := (hB.alloc (Nat.le_of_lt b0s) _).call (by simp <;> omega) hb2
        have hr2 := (hr1.alloc' _).call hb2
        have c10 := b0'.cell 0
        have c11 := b0'.cell 1
        have c12 := b0'.cell 2
        have c13 := b0'.cell 3
        simp at c10 c11 c12 c13
        have b0s2 := b0'.lt
        rcases q with _ | ⟨q1, q2⟩ <;> unfold peerV)
      · have hch : childB ws hn hl node k = false := by simp [childB, Hq.out]
        have Hch := Lib.hid hch; clear hch
        go_quiet (fail)
        go_wp2
        go_roundw
        case rel =>
          exact ⟨k + 1, xs, by go_num, by omega, (rchildren_no Hch.out).trans Hxs.out, (hown2.alloc _).drewN _, (hB'.alloc (Nat.le_of_lt b0s2) _).drewN' _, (b0'.alloc _).drewN _⟩
        case measure => simp [intOf]; omega
      · have b0a := b0'.alloc (Obj.cells #[.int .i64 q1, .int .i64 q2] 24)
        have hr3 := hr2.alloc' (Obj.cells #[.int .i64 q1, .int .i64 q2] 24)
        have hown3 := hown2.alloc (Obj.cells #[.int .i64 q1, .int .i64 q2] 24)
        have hB3 := hB'.alloc (Nat.le_of_lt b0s2) (Obj.cells #[.int .i64 q1, .int .i64 q2] 24)
        have b9 := Blk.new w2 24 #[.int .i64 q1, .int .i64 q2]
        clear c10 c11 c12 c13 c00 c01 c02 c03 hown hB b0 hr1 b0' hown2 hB' hr2 b0s b0s2 hb2 HP
        have h9 := b9.lt
        generalize w2.alloc (Obj.cells #[.int .i64 q1, .int .i64 q2] 24) = W at *
        have c10 := b0a.cell 0
        have c11 := b0a.cell 1
        have c12 := b0a.cell 2
        have c13 := b0a.cell 3
        have c90 := b9.cell 0
        have c91 := b9.cell 1
        simp at c10 c11 c12 c13 c90 c91
        have b0s2 := b0a.lt
        by_cases hqh : q1 = hn
        · have hch : childB ws hn hl node k = false := by simp [childB, Hq.out, hqh]
          have Hch := Lib.hid hch; clear hch
          have hd : (q1 != hn) = false := by simpa using hqh
          have Hqh := Lib.hid hqh; clear hqh
          go_quiet (fail)
          go_wp2
          go_roundw
          case rel =>
            exact ⟨k + 1, xs, by go_num, by omega, (rchildren_no Hch.out).trans Hxs.out, hown3.drewN _, hB3.drewN' _, b0a.drewN _⟩
          case measure => simp [intOf]; omega
        · have hd : (q1 != hn) = true := by simpa using hqh
          have HU := Lib.hid (fun w hr => rup N hn hl A m c ws q1 w hr hm Hnet.out)
          cases he : portEq (upOf ws hn hl q1).1 (upOf ws hn hl q1).2 q1 q2
          · have hch : childB ws hn hl node k = false := by simp [childB, Hq.out, he]
            have Hch := Lib.hid hch; clear hch
            have Hqh := Lib.hid hqh; clear hqh
            go_region_held3 (fun w' => W.heap.size ≤ w'.heap.size ∧ ∀ b o, b < W.heap.size → w'.cell? ⟨b, o, none⟩ = W.cell? ⟨b, o, none⟩)
              (first | exact SBel.drew | exact SBel.drew.below hb1)
              ((go_at_call 27; refine (HU.out _ (by exact hr3)).mono ?_; rintro e w1 ⟨rfl, hb1⟩; unfold ptV))
            have hbW : Below W.heap.size W w1 := (Below.refl W.heap.size W).drew.trans hb1
            go_wp2
            go_roundw
            case rel =>
              exact ⟨k + 1, xs, by go_num, by omega, (rchildren_no Hch.out).trans Hxs.out, hown3.below hbW, hB3.call (Nat.le_of_lt b0s2) hbW, b0a.call hbW⟩
            case measure => simp [intOf]; omega
          · have hch : childB ws hn hl node k = true := by simp [childB, Hq.out, he, hqh]
            have Hch := Lib.hid hch; clear hch
            have Hqh := Lib.hid hqh; clear hqh
            go_region_held3 (fun w' => W.heap.size ≤ w'.heap.size ∧ ∀ b o, b < W.heap.size → w'.cell? ⟨b, o, none⟩ = W.cell? ⟨b, o, none⟩)
              (first | exact SBel.drew | exact SBel.drew.below hb1)
              ((go_at_call 27; refine (HU.out _ (by exact hr3)).mono ?_; rintro e w1 ⟨rfl, hb1⟩; unfold ptV))
            have hbW : Below W.heap.size W w1 := (Below.refl W.heap.size W).drew.trans hb1
            have hown4 := hown3.below hbW
            have hB4 := hB3.call (Nat.le_of_lt b0s2) hbW
            have b04 := b0a.call hbW
            have b0s4 := b04.lt
            have hxl : xs.length ≤ 1000 := by
              rw [← Hxs.out, rchildren, List.length_map]
              have h1 := List.length_filter_le (childB ws hn hl node) (List.range k)
              rw [List.length_range] at h1
              omega
            go_wp2_with (at_builtin; refine app_own Try.underlying28 hi0 hz0 hz1 hz2 rfl (by decide) (hown4.alloc _) (by simp <;> omega) rfl (.tmp 52) (.tmp 54) rfl rfl w1.heap.size 1 1 #[.int .i64 (k : Int)] rfl (Blk.new w1 _ _) rfl (by simp [Value.oneCell']) (by omega) (by omega) ?_; intro v' w' hown5 _ hB5 _)
            go_roundw
            case rel =>
              refine ⟨k + 1, xs ++ [(k : Int)], by go_num, by omega, by show _ = _; rw [rchildren_yes Hch.out, Hxs.out], ?_, (hB4.alloc (by omega) _).trans (hB5.mono (by omega)), (b04.alloc _).below hB5 (by omega)⟩
              rw [List.length_append, icells, List.map_append]; exact hown5
            case measure => simp [intOf]; omega
    · obtain rfl : 4 = k := by omega
      go_wp2
      go_ret2
      rw [Hxs.out]
      exact RetSE.of_own hown hB
end Go.Proofs.Ytadpenphiagdmaa
