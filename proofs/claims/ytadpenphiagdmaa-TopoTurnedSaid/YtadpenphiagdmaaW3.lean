/- walks -/
import Derived.Test.YtadpenphiagdmaaP1
namespace Go.Proofs.Ytadpenphiagdmaa
open Go.RowKit
set_option linter.unusedVariables false
set_option linter.unusedSimpArgs false

set_option maxRecDepth 100000 in
set_option maxHeartbeats 1000000 in
theorem rOrder (N hn hl : Int) (A : Option Addr) (m c : Nat) (ws : List Wire) (w : World) (hr : Reads w w.heap.size 4 A m (wcells ws)) (hm : m ≤ 1000000) (hok : NetOk N ws hn) :
    Calls Try.prog 34 #[.agg #[.int .i64 N, .slice A m c, .int .i64 hn, .int .i64 hl]] w (RetS 2 (orderOf ws hn hl).length (pcells (orderOf ws hn hl)) w) := by
  obtain ⟨i0, hi0, hz0, hz1, hz2⟩ := info_parts port_info
  have Hok := Lib.hid hok; clear hok
  go_enter Try.func34, Try.ntmps34
  go_wp2
  go_loopw [3, 4] (fun v i wr => ∃ (j : Nat) (l : List Pt), i = .int .i64 j ∧ j ≤ l.length ∧ 0 < l.length ∧ wr.ownsRow (w.heap.size + 1) 24 2 v l.length (pcells l) ∧ Below w.heap.size w wr ∧
      Blk wr w.heap.size 26 #[.int .i64 N, .slice A m c, .int .i64 hn, .int .i64 hl] ∧ Found N l ∧ Hid (orderOf ws hn hl = ordL ws (9 - j) l j)) (fun _ i _ => 9 - (intOf i).toNat)
  case atStart =>
    obtain ⟨l1, l2, l3⟩ := lay2 w #[Value.int IntKind.i64 N, Value.slice A m c, Value.int IntKind.i64 hn, Value.int IntKind.i64 hl] #[.int .i64 hn, .int .i64 hl] 26 24
    refine ⟨0, [(hn, hl)], rfl, by simp, by simp, ?_, l1, l2, ⟨by simp, fun p hp => ?_⟩, rfl⟩
    · have := World.ownsRow_lit (base := w.heap.size + 1) (e := 24) (size := 2) (w.alloc (Obj.cells #[Value.int IntKind.i64 N, Value.slice A m c, Value.int IntKind.i64 hn, Value.int IntKind.i64 hl] 26)) #[.int .i64 hn, .int .i64 hl] 1 (by simp) (by unfold maxLen; omega) rfl
      simp only [World.size_alloc] at this
      exact this
    · simp at hp; subst hp; exact ⟨Hok.out.h0, Hok.out.h1⟩
  case round =>
    obtain ⟨j, l, rfl, hj, hl0, hown, hB, b0, hF, Ho⟩ := hrel
    have hl8 := hF.short Hok.out.n8
    obtain ⟨g, cap, rfl, hg1, hg2⟩ := ownsRow_pos hown hl0
    by_cases hlt : j < l.length
    · obtain ⟨p, hp⟩ : ∃ p, l[j]? = some p := ⟨_, List.getElem?_eq_getElem hlt⟩
      have Hp := Lib.hid hp; clear hp
      obtain ⟨wo, hwo⟩ : ∃ wo, wo = wr := ⟨_, rfl⟩
      subst hwo
      go_wp2
      go_loopw [3, 5] (fun v i wr => ∃ (k : Nat) (r : List Pt), i = .int .i64 k ∧ k ≤ 4 ∧ wr.ownsRow (w.heap.size + 1) 24 2 v (l ++ r).length (pcells (l ++ r)) ∧ Below w.heap.size w wr ∧
        Blk wr w.heap.size 26 #[.int .i64 N, .slice A m c, .int .i64 hn, .int .i64 hl] ∧ Found N (l ++ r) ∧ Hid (ordNode ws p.1 l = ordFrom ws p.1 (l ++ r) k)) (fun _ i _ => 4 - (intOf i).toNat)
      case atStart => exact ⟨0, [], rfl, by simp, by simpa using hown, hB, b0, by simpa using hF, by rw [List.append_nil]; exact (ordFrom_zero ws p.1 l).symm⟩
      case round =>
        clear hown hg1 hg2 hB b0 hF
        obtain ⟨k, r, rfl, hk, hown, hB, b0, hF, Hn⟩ := hrel
        have hlr : (l ++ r).length = l.length + r.length := List.length_append
        have hlr8 := hF.short Hok.out.n8
        obtain ⟨g', cap', rfl, hg1, hg2⟩ := ownsRow_pos hown (by omega)
        by_cases hk4 : k < 4
        · have hx : (l ++ r)[j]? = some p := by rw [List.getElem?_append_left hlt]; exact Hp.out
          obtain ⟨e1, e2⟩ := pcells_get _ _ _ hx
          have c1 := (hown.cellAt (j * 2) (by omega)).trans e1
          have hji : (j : Int) < ((l ++ r).length : Int) := by omega
          have c00 := b0.cell 0
          have c01 := b0.cell 1
          have c02 := b0.cell 2
          have c03 := b0.cell 3
          simp at c00 c01 c02 c03
          have b0s := b0.lt
          generalize hls : (l ++ r).length = L at *
          have Hls := Lib.hid hls; clear hls
          clear hx e1 e2 hlr
          obtain ⟨q, hq⟩ : ∃ q, peerL ws p.1 k = q := ⟨_, rfl⟩
          have hrp := rpeer N hn hl p.1 k A m c ws
          rw [hq] at hrp
          have Hq := Lib.hid hq; clear hq
          have Hrp := Lib.hid hrp; clear hrp
          have hr0 := hr.up hB (by omega)
          have hle1 : w.heap.size ≤ wr.heap.size := by omega
          have hle2 : g' ≤ wr.heap.size := by omega
          have hne1 : w.heap.size ≠ wr.heap.size := by omega
          have hne2 : g' ≠ wr.heap.size := by omega
          go_upto_region 8 with (fail)
          go_cut [6, 7] (fun s6 s7 wx => ∃ g6 : Nat, s6 = .pointer (some ⟨g6, 0, none⟩) ∧ s7 = .bool q.isSome ∧ Blk wx g6 24 #[.int .i64 (q.getD (0, 0)).1, .int .i64 (q.getD (0, 0)).2] ∧ wx.ownsRow (w.heap.size + 1) 24 2 (.slice (some ⟨g', 0, none⟩) L cap') L (pcells (l ++ r)) ∧ Below w.heap.size w wx ∧
            Blk wx w.heap.size 26 #[.int .i64 N, .slice A m c, .int .i64 hn, .int .i64 hl])
          case first =>
            rcases q with _ | ⟨q1, q2⟩
            · have hrp := Hrp.out
              simp only [peerV] at hrp
              have Hr2 := Lib.hid hrp; clear hrp Hrp
              go_region_held3 (fun w' => wr.heap.size ≤ w'.heap.size ∧ ∀ b o, b < wr.heap.size → w'.cell? ⟨b, o, none⟩ = wr.cell? ⟨b, o, none⟩)
                (first | exact SBel.drew | exact SBel.drew.alloc _ | exact SBel.drew.below hb1 | exact (SBel.drew.below hb1).alloc _ | exact (SBel.drew.alloc _).below hb1 | exact (((SBel.drew.alloc _).below hb1).set (by simp) _).set (by simp) _)
                ((go_at_call 29; refine (Hr2.out _ (by first | exact hr0 | exact hr0.alloc' _) hm).mono ?_; rintro e w1 ⟨rfl, hb1⟩; obtain ⟨hc1, hf1⟩ := bcell hb1))
              · go_wp2
                go_meet
                obtain ⟨k1, k2⟩ := call_box hb1 #[Value.int IntKind.i64 0, Value.int IntKind.i64 0] 24
                exact ⟨w1.heap.size, rfl, rfl, k2, hown.below k1, hB.call hle1 k1, b0.call k1⟩
              · go_wp2
                go_meet
                obtain ⟨k1, k2⟩ := box_call2 hb1 rfl (Value.int IntKind.i64 0) (Value.int IntKind.i64 0)
                exact ⟨wr.heap.size, rfl, rfl, k2, hown.below k1, hB.call hle1 k1, b0.call k1⟩
            · have hrp := Hrp.out
              simp only [peerV] at hrp
              have Hr2 := Lib.hid hrp; clear hrp Hrp
              go_region_held3 (fun w' => wr.heap.size ≤ w'.heap.size ∧ ∀ b o, b < wr.heap.size → w'.cell? ⟨b, o, none⟩ = wr.cell? ⟨b, o, none⟩)
                (first | exact SBel.drew | exact SBel.drew.alloc _ | exact SBel.drew.below hb1 | exact (SBel.drew.below hb1).alloc _ | exact (SBel.drew.alloc _).below hb1 | exact (((SBel.drew.alloc _).below hb1).set (by simp) _).set (by simp) _)
                ((go_at_call 29; refine (Hr2.out _ (by first | exact hr0 | exact hr0.alloc' _) hm).mono ?_; rintro e w1 ⟨rfl, hb1⟩; obtain ⟨hc1, hf1⟩ := bcell hb1))
              · go_wp2
                go_meet
                obtain ⟨k1, k2⟩ := call_box hb1 #[Value.int IntKind.i64 q1, Value.int IntKind.i64 q2] 24
                exact ⟨w1.heap.size, rfl, rfl, k2, hown.below k1, hB.call hle1 k1, b0.call k1⟩
              · go_wp2
                go_meet
                obtain ⟨k1, k2⟩ := box_call2 hb1 rfl (Value.int IntKind.i64 q1) (Value.int IntKind.i64 q2)
                exact ⟨wr.heap.size, rfl, rfl, k2, hown.below k1, hB.call hle1 k1, b0.call k1⟩
          case rest =>
            clear hown hB b0 c1 c00 c01 c02 c03 hr0 hg1 hg2 b0s hle1 hle2 hne1 hne2 Hrp
            obtain ⟨g6, rfl, rfl, b6, hown, hB, b0⟩ := hcut
            obtain ⟨q1, q2, hq12⟩ : ∃ q1 q2, q.getD (0, 0) = (q1, q2) := ⟨_, _, rfl⟩
            have b6' : Blk wc g6 24 #[.int .i64 q1, .int .i64 q2] := by rw [hq12] at b6; exact b6
            clear b6
            have Hq12 := Lib.hid hq12; clear hq12
            have c60 := b6'.cell 0
            have c61 := b6'.cell 1
            simp at c60 c61
            go_wp2
            go_loopw [7, 8] (fun s7 s8 wx => ∃ t : Nat, s8 = .int .i64 t ∧ t ≤ L ∧ s7 = .bool (fresh q ((l ++ r).take t)) ∧ ∃ n, wx = wc.drewN n) (fun _ s8 _ => L - (intOf s8).toNat)
            case atStart => exact ⟨0, rfl, by omega, by rw [List.take_zero, fresh_nil], 0, rfl⟩
            case round =>
              obtain ⟨t, rfl, ht, rfl, n, rfl⟩ := hrel
              by_cases htl : t < L
              · obtain ⟨x, hx⟩ : ∃ x, (l ++ r)[t]? = some x := ⟨_, List.getElem?_eq_getElem (by rw [Hls.out]; exact htl)⟩
                obtain ⟨e1, e2⟩ := pcells_get _ _ _ hx
                have cx := (hown.cellAt (t * 2) (by omega)).trans e1
                clear e1 e2
                have Hx := Lib.hid hx; clear hx
                cases hf : fresh q ((l ++ r).take t)
                · have Hf := Lib.hid hf
                  go_wp2
                  go_quiet (fail)
                  go_wp2
                  go_roundw
                  case rel => exact ⟨t + 1, by go_num, by omega, by rw [fresh_false Hf.out], _, rfl⟩
                  case measure => simp [intOf]; omega
                · have Hf := Lib.hid hf
                  have htI : (t : Int) < (L : Int) := by omega
                  go_wp2
                  go_quiet (fail)
                  go_wp2
                  go_roundw
                  case rel => exact ⟨t + 1, by go_num, by omega, by rw [fresh_true Hx.out Hf.out, Hq12.out], _, rfl⟩
                  case measure => simp [intOf]; omega
              · obtain rfl : L = t := by omega
                have htk : (l ++ r).take L = l ++ r := List.take_of_length_le (by rw [Hls.out]; omega)
                rw [htk]
                cases hf : fresh q (l ++ r)
                · go_wp2
                  go_roundw
                  case rel =>
                    refine ⟨k + 1, r, by go_num, by omega, by rw [Hls.out]; exact hown.drewN _, hB.drewN' _, b0.drewN _, hF, ?_⟩
                    show _ = _
                    rw [Hn.out, ordFrom_step _ _ _ _ hk4, ordStep_fresh, Hq.out, hf]; rfl
                  case measure => simp [intOf]; omega
                · have hBd := hB.drewN' n
                  have b0d := b0.drewN n
                  have hd := hown.drewN n
                  have hsz := b0d.lt
                  have b6d := b6'.drewN n
                  generalize wc.drewN n = wd at *
                  have c60d := b6d.cell 0
                  have c61d := b6d.cell 1
                  simp at c60d c61d
                  clear c60 c61
                  go_wp2_with (at_builtin; refine app_own Try.underlying67 hi0 hz0 hz1 hz2 rfl (by decide) (hd.alloc _) (by simp <;> omega) rfl (.tmp 52) (.tmp 54) rfl rfl wd.heap.size 1 1 #[.int .i64 q1, .int .i64 q2] rfl (Blk.new wd _ _) rfl (by simp [Value.oneCell']) (by omega) (by omega) ?_; intro v' w' hown2 _ hB2 _)
                  go_roundw
                  case rel =>
                    refine ⟨k + 1, r ++ [(q1, q2)], by go_num, by omega, ?_, ?_, ?_, ?_, ?_⟩
                    · have e : (l ++ (r ++ [(q1, q2)])).length = L + 1 := by rw [← List.append_assoc, List.length_append, Hls.out]; rfl
                      rw [e, ← List.append_assoc, pcells_append]; exact hown2
                    · exact (hBd.alloc (by omega) _).trans (hB2.mono (by omega))
                    · exact (b0d.alloc _).below hB2 (by omega)
                    · have h2 := hF.step Hok.out k (n := p.1)
                      rwa [ordStep_fresh, Hq.out, hf, if_pos rfl, Hq12.out, List.append_assoc] at h2
                    · show _ = _
                      rw [Hn.out, ordFrom_step _ _ _ _ hk4, ordStep_fresh, Hq.out, hf, if_pos rfl, Hq12.out, List.append_assoc]
                  case measure => simp [intOf]; omega
        · obtain rfl : 4 = k := by omega
          go_wp2
          go_roundw
          case rel =>
            refine ⟨j + 1, l ++ r, by go_num, by omega, by omega, hown, hB, b0, hF, ?_⟩
            show _ = _
            rw [Ho.out, show 9 - j = 9 - (j + 1) + 1 from by omega, ordL_step Hp.out, Hn.out, ordFrom_four]
          case measure => simp [intOf]; omega
    · obtain rfl : l.length = j := by omega
      go_wp2
      go_ret
      rw [Ho.out, ordL_end (Nat.le_refl _)]
      exact RetS.of_own hown hB
end Go.Proofs.Ytadpenphiagdmaa
