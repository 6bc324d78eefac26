/- walks -/
import Derived.Test.YtadpenphiagdmaaW8
namespace Go.Proofs.Ytadpenphiagdmaa
open Go.RowKit
set_option linter.unusedVariables false
set_option linter.unusedSimpArgs false

def parentOf (ws : List Wire) (hn hl x : Int) : Int := ((peerL ws (upOf ws hn hl x).1 (upOf ws hn hl x).2).getD (0, 0)).1
/-- The nodes from x up to the root; none, if it is not reached within so many steps. -/
def pathF (ws : List Wire) (hn hl : Int) : Nat → Int → Option (List Int)
  | 0, _ => none
  | f + 1, x => if x = hn then some [x] else (pathF ws hn hl f (parentOf ws hn hl x)).map (x :: ·)
def lenOf : Value → Nat | .slice _ n _ => n | _ => 0

theorem pathF_pos {ws : List Wire} {hn hl x : Int} {f : Nat} {l : List Int} (h : pathF ws hn hl f x = some l) : 0 < l.length := by
  cases f with
  | zero => cases h
  | succ f =>
    simp only [pathF] at h
    split at h
    · injection h with h; subst h; simp
    · rw [Option.map_eq_some_iff] at h
      obtain ⟨r, _, rfl⟩ := h; simp
theorem pathF_root {ws : List Wire} {hn hl x : Int} {f : Nat} {l : List Int} (h : pathF ws hn hl f x = some l) (hx : x = hn) : l = [x] := by
  cases f with
  | zero => cases h
  | succ f => simp only [pathF, if_pos hx] at h; injection h with h; exact h.symm
theorem pathF_up {ws : List Wire} {hn hl x : Int} {f : Nat} {l : List Int} (h : pathF ws hn hl f x = some l) (hx : x ≠ hn) : ∃ g r, f = g + 1 ∧ l = x :: r ∧ pathF ws hn hl g (parentOf ws hn hl x) = some r := by
  cases f with
  | zero => cases h
  | succ f =>
    simp only [pathF, if_neg hx, Option.map_eq_some_iff] at h
    obtain ⟨r, h1, rfl⟩ := h
    exact ⟨f, r, rfl, rfl, h1⟩

/-- As RetS, and the capacity is no less than the length. -/
def RetC (size n : Nat) (xs : List Value) (w : World) (e : Ending) (w' : World) : Prop :=
  ∃ A c, e = .returned (.slice A n c) ∧ Reads w' w'.heap.size size A n xs ∧ n ≤ c ∧ Below w.heap.size w w'
theorem RetC.of_own {w w' : World} {base e size n : Nat} {v : Value} {xs : List Value} (h : w'.ownsRow base e size v n xs) (hB : Below w.heap.size w w') : RetC size n xs w (.returned v) w' := by
  rcases h.2 with ⟨rfl, rfl⟩ | ⟨g, cap, cur, rfl, _, _, hc, _⟩
  · exact ⟨_, _, rfl, Reads.of_own h, Nat.le_refl _, hB⟩
  · exact ⟨_, _, rfl, Reads.of_own h, hc, hB⟩
set_option maxRecDepth 100000 in
set_option maxHeartbeats 1000000 in
theorem rPath (N hn hl : Int) (A : Option Addr) (m c : Nat) (ws : List Wire) (node : Int) (f : Nat) (l : List Int) (w : World) (hr : Reads w w.heap.size 4 A m (wcells ws)) (hm : m ≤ 1000000) (hok : NetOk N ws hn)
    (hp : pathF ws hn hl f node = some l) (hl8 : l.length ≤ 1000) :
    Calls Try.prog 31 #[.agg #[.int .i64 N, .slice A m c, .int .i64 hn, .int .i64 hl], .int .i64 node] w (RetC 1 l.length (icells l) w) := by
  obtain ⟨i0, hi0, hz0, hz1, hz2⟩ := info_parts int_info
  have Hok := Lib.hid hok; clear hok
  have Hp := Lib.hid hp; clear hp
  obtain ⟨k1, k2, k3⟩ := lay2 w #[.int .i64 N, .slice A m c, .int .i64 hn, .int .i64 hl] #[.int .i64 node] 26 3
  have hown0 := World.ownsRow_lit (base := w.heap.size + 1) (e := 3) (size := 1) (w.alloc (.cells #[.int .i64 N, .slice A m c, .int .i64 hn, .int .i64 hl] 26)) #[.int .i64 node] 1 (by simp) (by unfold maxLen; omega) rfl
  simp only [World.size_alloc] at hown0
  go_enter Try.func31, Try.ntmps31
  go_wp2
  go_loopw [1, 5] (fun x v wr => ∃ (nd : Int) (g : Nat) (pre r : List Int), x = .int .i64 nd ∧ Hid (pathF ws hn hl g nd = some r) ∧ Hid (l = pre ++ r) ∧ wr.ownsRow (w.heap.size + 1) 3 1 v (pre.length + 1) (icells (pre ++ [nd])) ∧
      Below w.heap.size w wr ∧ Blk wr w.heap.size 26 #[.int .i64 N, .slice A m c, .int .i64 hn, .int .i64 hl]) (fun _ v _ => l.length - lenOf v)
  case atStart => exact ⟨node, f, [], l, rfl, Hp, rfl, hown0, k1, k2⟩
  case round =>
    clear k1 k2 k3 hown0
    obtain ⟨nd, g, pre, r, rfl, Hg, Hl, hown, hB, b0⟩ := hrel
    have c00 := b0.cell 0
    have c01 := b0.cell 1
    have c02 := b0.cell 2
    have c03 := b0.cell 3
    simp at c00 c01 c02 c03
    have b0s := b0.lt
    have hr1 := hr.up hB (Nat.le_of_lt b0s)
    have hlr : l.length = pre.length + r.length := by rw [Hl.out, List.length_append]
    have hr0 := pathF_pos Hg.out
    obtain ⟨g5, cap, rfl, hg1, hg2⟩ := ownsRow_pos hown (by omega)
    by_cases hx : nd = hn
    · have hd : (nd != hn) = false := by simpa using hx
      have e := pathF_root Hg.out hx
      have E := Lib.hid e; clear e
      have Hx := Lib.hid hx; clear hx
      go_wp2
      go_ret
      have e2 : l = pre ++ [nd] := by rw [← E.out]; exact Hl.out
      rw [← e2] at hown
      have e3 : l.length = pre.length + 1 := by rw [e2]; simp
      rw [e3]
      exact RetC.of_own hown hB
    · have hd : (nd != hn) = true := by simpa using hx
      obtain ⟨g', r', rfl, hrr, hg'⟩ := pathF_up Hg.out hx
      have Hrr := Lib.hid hrr
      have hrl : r.length = r'.length + 1 := by rw [hrr]; simp
      clear hrr
      have Hg' := Lib.hid hg'; clear hg' Hg
      have hr0' := pathF_pos Hg'.out
      have Hx := Lib.hid hx; clear hx
      obtain ⟨u, hu⟩ : ∃ u, upOf ws hn hl nd = u := ⟨_, rfl⟩
      obtain ⟨u1, u2⟩ := u
      obtain ⟨q, hq⟩ : ∃ q, peerL ws u1 u2 = q := ⟨_, rfl⟩
      have hpar : parentOf ws hn hl nd = (q.getD (0, 0)).1 := by rw [parentOf, hu, hq]
      have HU := Lib.hid (fun w hr => rup N hn hl A m c ws nd w hr hm Hok.out)
      have HP := Lib.hid (fun w hr => rpeer N hn hl u1 u2 A m c ws w hr hm)
      rw [hu] at HU
      rw [hq] at HP
      rw [hpar] at Hg'
      obtain ⟨q1, q2, hq12⟩ : ∃ q1 q2, q.getD (0, 0) = (q1, q2) := ⟨_, _, rfl⟩
      rw [hq12] at Hg'
      have hpv : peerV q = .tuple #[.agg #[.int .i64 q1, .int .i64 q2], .bool q.isSome] := by
        rcases q with _ | ⟨a, b⟩ <;> (simp at hq12; obtain ⟨rfl, rfl⟩ := hq12; rfl)
      rw [hpv] at HP
      clear hu hq hpar hq12 hpv
      go_upto_region 3 with (fail)
      go_cut [6, 7] (fun s6 s7 wx => ∃ g6 : Nat, s6 = .pointer (some ⟨g6, 0, none⟩) ∧ Blk wx g6 24 #[.int .i64 q1, .int .i64 q2] ∧ wx.ownsRow (w.heap.size + 1) 3 1 (.slice (some ⟨g5, 0, none⟩) (pre.length + 1) cap) (pre.length + 1) (icells (pre ++ [nd])) ∧ Below w.heap.size w wx ∧
            Blk wx w.heap.size 26 #[.int .i64 N, .slice A m c, .int .i64 hn, .int .i64 hl])
      case first =>
        go_region_held3 (fun w' => wr.heap.size ≤ w'.heap.size ∧ ∀ b o, b < wr.heap.size → w'.cell? ⟨b, o, none⟩ = wr.cell? ⟨b, o, none⟩)
          (first | exact SBel.drew | exact SBel.drew.alloc _ | exact SBel.drew.below hb1 | exact (SBel.drew.below hb1).alloc _ | exact (SBel.drew.alloc _).below hb1 | exact (SBel.drew.below hb1).below hb2 | exact ((SBel.drew.below hb1).below hb2).alloc _ | exact ((SBel.drew.below hb1).alloc _).below hb2 | exact ((SBel.drew.alloc _).below hb1).below hb2 | exact ((((SBel.drew.alloc _).below hb1).below hb2).set (by simp) _).set (by simp) _ | exact ((((SBel.drew.below hb1).alloc _).below hb2).set (p := ⟨w1.heap.size, 0, none⟩) hb1.size _).set (p := ⟨w1.heap.size, 1, none⟩) hb1.size _)
          (first
            | (go_at_call 27; refine (HU.out _ (by first | exact hr1 | exact hr1.alloc' _)).mono ?_; rintro e w1 ⟨rfl, hb1⟩; unfold ptV; have hr2 : Reads w1 w1.heap.size 4 A m (wcells ws) := (by first | exact Reads.call (w := wr.drew) hr1 hb1 | exact Reads.call (w := wr.drew.alloc _) (hr1.alloc' _) hb1))
            | (go_at_call 29; refine (HP.out _ (by first | exact hr2 | exact hr2.alloc' _)).mono ?_; rintro e w2 ⟨rfl, hb2⟩; (first | (have bz := ((Blk.new wr.drew 24 #[.int .i64 0, .int .i64 0]).call hb1).call hb2; have z0 := bz.cell 0; have z1 := bz.cell 1; have z2 := bz.frozen 0; have z3 := bz.frozen 1; simp at z0 z1 z2 z3) | (have bz := (Blk.new w1 24 #[.int .i64 0, .int .i64 0]).call hb2; have z0 := bz.cell 0; have z1 := bz.cell 1; have z2 := bz.frozen 0; have z3 := bz.frozen 1; simp at z0 z1 z2 z3) | skip)))
        · go_wp2
          go_meet
          have h12 : Below wr.heap.size wr w2 := ((Below.refl wr.heap.size wr).drew.trans hb1).trans (hb2.mono hb1.size)
          have k1 := h12.alloc h12.size (.cells #[.int .i64 q1, .int .i64 q2] 24)
          exact ⟨w2.heap.size, rfl, Blk.new _ _ _, hown.below k1, hB.call (Nat.le_of_lt b0s) k1, b0.call k1⟩
        · go_wp2
          go_meet
          have h1 : Below wr.heap.size wr w1 := (Below.refl wr.heap.size wr).drew.trans hb1
          have h2 := (h1.alloc h1.size (.cells #[.int .i64 0, .int .i64 0] 24)).trans (hb2.mono (by have := h1.size; simp; omega))
          obtain ⟨k1, k2⟩ := fill2 h2 bz rfl h1.size (.int .i64 q1) (.int .i64 q2)
          exact ⟨w1.heap.size, rfl, k2, hown.below k1, hB.call (Nat.le_of_lt b0s) k1, b0.call k1⟩
        · go_wp2
          go_meet
          have h1 : Below wr.heap.size wr w1 := ((Below.refl wr.heap.size wr).drew.alloc (Nat.le_refl _) _).trans (hb1.mono (by simp))
          have h2 := h1.trans (hb2.mono h1.size)
          obtain ⟨k1, k2⟩ := fill2 h2 bz rfl (Nat.le_refl _) (.int .i64 q1) (.int .i64 q2)
          exact ⟨wr.heap.size, rfl, k2, hown.below k1, hB.call (Nat.le_of_lt b0s) k1, b0.call k1⟩
      case rest =>
        clear hown hB b0 c00 c01 c02 c03 hr1 HU HP hg1 hg2 b0s
        obtain ⟨g6, rfl, b6, hown, hB, b0⟩ := hcut
        have c60 := b6.cell 0
        simp at c60
        have b0s := b0.lt
        have hpl : pre.length ≤ 1000 := by omega
        go_wp2_with (at_builtin; refine app_own Try.underlying28 hi0 hz0 hz1 hz2 rfl (by decide) (hown.alloc _) (by simp <;> omega) rfl (.tmp 25) (.tmp 27) rfl rfl wc.heap.size 1 1 #[.int .i64 q1] rfl (Blk.new wc _ _) rfl (by simp [Value.oneCell']) (by omega) (by omega) ?_; intro v' w' hown5 _ hB5 _)
        obtain ⟨g7, cap7, rfl, _, _⟩ := ownsRow_pos hown5 (by omega)
        go_roundw
        case rel =>
          refine ⟨q1, g', pre ++ [nd], r', rfl, Hg', ?_, ?_, (hB.alloc (by omega) _).trans (hB5.mono (by omega)), (b0.alloc _).below hB5 (by omega)⟩
          · show _ = _
            rw [List.append_assoc]
            show l = pre ++ (nd :: r')
            rw [← Hrr.out]; exact Hl.out
          · rw [List.length_append, icells, List.map_append]; exact hown5
        case measure => simp [lenOf]; omega
end Go.Proofs.Ytadpenphiagdmaa
