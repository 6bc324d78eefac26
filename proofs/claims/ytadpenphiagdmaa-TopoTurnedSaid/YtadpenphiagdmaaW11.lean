/- walks -/
import Derived.Test.YtadpenphiagdmaaW10
namespace Go.Proofs.Ytadpenphiagdmaa
open Go.RowKit
set_option linter.unusedVariables false
set_option linter.unusedSimpArgs false

set_option maxRecDepth 100000 in
set_option maxHeartbeats 2000000 in
theorem rRoute_good (N hn hl : Int) (A : Option Addr) (m c : Nat) (ws : List Wire) (fr dn : Int) (a b : List Int) (w : World) (hr : Reads w w.heap.size 4 A m (wcells ws)) (hm : m ≤ 1000000)
    (hmay : mayB N ws hn hl = true) (h1 : 0 ≤ fr) (h2 : fr < N) (h3 : 0 ≤ dn) (h4 : dn < N) (ha : pathF ws hn hl 9 fr = some a) (hb : pathF ws hn hl 9 dn = some b) (hal : a.length ≤ 9) (hbl : b.length ≤ 9) :
    Calls Try.prog 16 #[.agg #[.int .i64 N, .slice A m c, .int .i64 hn, .int .i64 hl], .int .i64 fr, .int .i64 dn] w (RetSE (routeL ws hn hl a b) 0 w) := by
  obtain ⟨i0, hi0, hz0, hz1, hz2⟩ := info_parts int_info
  obtain ⟨k1, k2⟩ := lay1 w #[.int .i64 N, .slice A m c, .int .i64 hn, .int .i64 hl] 26
  have hr0 := hr.up k1 (by simp <;> omega)
  have HO := Lib.hid (rMay N hn hl A m c ws (w.alloc (.cells #[.int .i64 N, .slice A m c, .int .i64 hn, .int .i64 hl] 26)) hr0 hm)
  have Hnet := Lib.hid (mayB_net hmay)
  have Hmay := Lib.hid hmay; clear hmay
  have ha0 := pathF_pos ha
  have hb0 := pathF_pos hb
  have HA := Lib.hid (fun w hr => rPath N hn hl A m c ws fr 9 a w hr hm Hnet.out ha (by omega))
  have HB := Lib.hid (fun w hr => rPath N hn hl A m c ws dn 9 b w hr hm Hnet.out hb (by omega))
  clear ha hb
  have hd1 : decide (fr < 0) = false := by simp; omega
  have hd2 : decide (N ≤ fr) = false := by simp; omega
  have hd3 : decide (dn < 0) = false := by simp; omega
  have hd4 : decide (N ≤ dn) = false := by simp; omega
  go_enter Try.func16, Try.ntmps16
  go_wp2_with (
    go_at_call 19
    refine HO.out.mono ?_
    rintro e w1 ⟨rfl, hb1⟩
    rw [Hmay.out]
    have b1 := k2.call hb1
    have hB1 := k1.call (by simp <;> omega) hb1
    have hr1 := hr0.call hb1
    have c00 := b1.cell 0
    have c01 := b1.cell 1
    have c02 := b1.cell 2
    have c03 := b1.cell 3
    have b1s := b1.lt
    simp at c00 c01 c02 c03)
  refine (HA.out _ hr1).mono ?_
  rintro e w2 ⟨A8, c8, rfl, hra, hc8, hb2⟩
  have b2 := b1.call hb2
  have hB2 := hB1.call (Nat.le_of_lt b1s) hb2
  have hr2 := hr1.call hb2
  have b2s := b2.lt
  clear c00 c01 c02 c03
  have c00 := b2.cell 0
  have c01 := b2.cell 1
  have c02 := b2.cell 2
  have c03 := b2.cell 3
  simp at c00 c01 c02 c03
  go_wp2_with fail
  refine (HB.out _ hr2).mono ?_
  rintro e w3 ⟨A9, c9, rfl, hrb, hc9, hb3⟩
  have b3 := b2.call hb3
  have hB3 := hB2.call (Nat.le_of_lt b2s) hb3
  have hra3 := hra.call hb3
  clear c00 c01 c02 c03 b1 hB1 hr1 b1s b2 hB2 hr2 b2s hr0 HO hb1 hb2 hb3 hra HA HB k1 k2 hd1 hd2 hd3 hd4
  obtain ⟨b8, o8, rfl, hb8, hca⟩ := hra3.addr (by omega) (by omega)
  obtain ⟨b9, o9, rfl, hb9, hcb⟩ := hrb.addr (by omega) (by omega)
  have Hca := Lib.hid hca; clear hca
  have Hcb := Lib.hid hcb; clear hcb
  go_upto_block 0 with (fail)
  go_cut [8, 9] (fun s8 s9 wx => ∃ (na nb : Nat), s8 = .slice (some ⟨b8, o8, none⟩) (na + 1) c8 ∧ s9 = .slice (some ⟨b9, o9, none⟩) (nb + 1) c9 ∧ na + 1 ≤ a.length ∧ nb + 1 ≤ b.length ∧ Hid (strip a b a.length b.length = (na + 1, nb + 1)) ∧ ∃ n, wx = w3.drewN n)
  case first =>
    go_wp2_with fail
    go_loopw [8, 9] (fun s8 s9 wx => ∃ (na nb : Nat), s8 = .slice (some ⟨b8, o8, none⟩) (na + 1) c8 ∧ s9 = .slice (some ⟨b9, o9, none⟩) (nb + 1) c9 ∧ na + 1 ≤ a.length ∧ nb + 1 ≤ b.length ∧ Hid (strip a b a.length b.length = strip a b (na + 1) (nb + 1)) ∧ ∃ n, wx = w3.drewN n) (fun s8 _ _ => lenOf s8)
    case atStart => exact ⟨a.length - 1, b.length - 1, by rw [show a.length - 1 + 1 = a.length from by omega], by rw [show b.length - 1 + 1 = b.length from by omega], by omega, by omega, by rw [show a.length - 1 + 1 = a.length from by omega, show b.length - 1 + 1 = b.length from by omega]; exact rfl, 0, rfl⟩
    case round =>
      obtain ⟨na, nb, rfl, rfl, hna, hnb, Hst, n, rfl⟩ := hrel
      rcases na with _ | na
      · go_wp2
        go_quiet (fail)
        go_wp2
        go_meet
        exact ⟨0, nb, rfl, rfl, by omega, by omega, by show _ = _; rw [Hst.out, strip_a], n + nq, by first | rfl | rw [World.drewN_drewN]⟩
      have g1 : decide ((1 : Int) < (na : Int) + 1 + 1) = true := by simp; omega
      have g2 : IntKind.i64.wrap ((na : Int) + 1 + 1 - 2) = (na : Int) := by rw [IntWalk.i64_in _ (by omega)]; omega
      rcases nb with _ | nb
      · clear g2
        go_wp2
        go_quiet (fail)
        go_wp2
        go_meet
        exact ⟨na + 1, 0, rfl, rfl, by omega, by omega, by show _ = _; rw [Hst.out, strip_b], n + nq, by first | rfl | rw [World.drewN_drewN]⟩
      · have g3 : decide ((1 : Int) < (nb : Int) + 1 + 1) = true := by simp; omega
        have g4 : IntKind.i64.wrap ((nb : Int) + 1 + 1 - 2) = (nb : Int) := by rw [IntWalk.i64_in _ (by omega)]; omega
        have l1 : (na : Int) < (na : Int) + 1 + 1 := by omega
        have l2 : (nb : Int) < (nb : Int) + 1 + 1 := by omega
        obtain ⟨x, hx⟩ : ∃ x, a[na]? = some x := ⟨_, List.getElem?_eq_getElem (by omega)⟩
        obtain ⟨y, hy⟩ : ∃ y, b[nb]? = some y := ⟨_, List.getElem?_eq_getElem (by omega)⟩
        have d1 := Hca.out _ _ (icells_get hx)
        have d2 := Hcb.out _ _ (icells_get hy)
        have Hx := Lib.hid hx; clear hx
        have Hy := Lib.hid hy; clear hy
        by_cases hxy : x = y
        · have Hs := Lib.hid (strip_eq Hx.out (hxy ▸ Hy.out))
          have he : (x == y) = true := by simpa using hxy
          have Hxy := Lib.hid hxy; clear hxy
          go_wp2
          go_quiet (fail)
          go_wp2
          go_roundw
          case rel => exact ⟨na, nb, rfl, rfl, by omega, by omega, by show _ = _; rw [Hst.out, Hs.out], n + nq, by first | rfl | rw [World.drewN_drewN]⟩
          case measure => simp [lenOf]
        · have Hs := Lib.hid (strip_ne Hx.out Hy.out hxy)
          have he : (x == y) = false := by simpa using hxy
          have Hxy := Lib.hid hxy; clear hxy
          go_wp2
          go_quiet (fail)
          go_wp2
          go_meet
          exact ⟨na + 1, nb + 1, rfl, rfl, by omega, by omega, by show _ = _; rw [Hst.out, Hs.out], n + nq, by first | rfl | rw [World.drewN_drewN]⟩
  case rest =>
    obtain ⟨na, nb, rfl, rfl, hna, hnb, Hst, n, rfl⟩ := hcut
    have bW := b3.drewN n
    have hBW := hB3.drewN' n
    have hrW := hr.up hBW (Nat.le_of_lt bW.lt)
    have hraW : Reads (w3.drewN n) (w3.drewN n).heap.size 1 (some ⟨b8, o8, none⟩) a.length (icells a) := hra3.drewN n
    have hrbW : Reads (w3.drewN n) (w3.drewN n).heap.size 1 (some ⟨b9, o9, none⟩) b.length (icells b) := hrb.drewN n
    clear b3 hB3 hra3 hrb Hca Hcb hr
    generalize hgw : w3.drewN n = W at *
    have hb8W : b8 < W.heap.size := by rw [← hgw]; exact hb8
    have hb9W : b9 < W.heap.size := by rw [← hgw]; exact hb9
    clear hgw hb8 hb9
    have bWs := bW.lt
    go_upto_block 2 with (fail)
    go_cut [10] (fun v wx => wx.ownsRow W.heap.size 3 1 v na (icells (ups ws hn hl (a.take na))) ∧ Below W.heap.size W wx)
    case first =>
      go_wp2_with fail
      go_loopw [10, 11] (fun v i wx => ∃ k : Nat, i = .int .i64 k ∧ k ≤ na ∧ wx.ownsRow W.heap.size 3 1 v k (icells (ups ws hn hl (a.take k))) ∧ Below W.heap.size W wx) (fun _ i _ => na - (intOf i).toNat)
      case atStart => exact ⟨0, rfl, by omega, World.ownsRow_nil _ _ _ _, Below.refl _ _⟩
      case round =>
        obtain ⟨k, rfl, hk, hown, hB⟩ := hrel
        have hkn : IntKind.i64.wrap ((k : Int) + 1) = (k : Int) + 1 := IntWalk.i64_in _ (by omega)
        have b0 := bW.below hB bWs
        have c00 := b0.cell 0
        have c01 := b0.cell 1
        have c02 := b0.cell 2
        have c03 := b0.cell 3
        simp at c00 c01 c02 c03
        have hr1 := hrW.call hB
        have hra1 := hraW.call hB
        have hWs := hB.size
        by_cases hlt : k < na
        · obtain ⟨x, hx⟩ : ∃ x, a[k]? = some x := ⟨_, List.getElem?_eq_getElem (by omega)⟩
          obtain ⟨b8', o8', hbo, hb8', hca⟩ := hraW.addr (by omega) (by omega)
          obtain ⟨rfl, rfl⟩ : b8 = b8' ∧ o8 = o8' := by injection hbo with h; injection h with h1 h2; exact ⟨h1, h2⟩
          clear hbo
          have d1 := (hB.cell (p := ⟨b8, o8 + k, none⟩) hb8W).trans (hca _ _ (icells_get hx))
          clear hca
          have Hx := Lib.hid hx; clear hx
          have HU := Lib.hid (fun w hr => rup N hn hl A m c ws x w hr hm Hnet.out)
          have l1 : (k : Int) < (na : Int) + 1 := by omega
          go_wp2_with fail
          go_region_held3 (fun w' => W.heap.size ≤ w'.heap.size ∧ ∀ b o, b < W.heap.size → w'.cell? ⟨b, o, none⟩ = wr.cell? ⟨b, o, none⟩)
            (first | exact SBl.drew hWs | exact (SBl.drew hWs).call hb1 | exact ((SBl.drew hWs).call hb1).alloc _ | exact (((SBl.drew hWs).call hb1).alloc _).below hB5 (Nat.le_refl _) | (trace_state; fail))
            (first
              | (go_at_call 27; refine (HU.out _ (by exact hr1)).mono ?_; rintro e w1 ⟨rfl, hb1⟩; unfold ptV; have hown1 := (hown.drew').below hb1; have hW1 : W.heap.size ≤ w1.heap.size := Nat.le_trans hWs hb1.size)
              | (refine step_app_own Try.underlying28 hi0 hz0 hz1 hz2 rfl (by decide) (hown1.alloc _) (by simp <;> omega) rfl (.tmp 82) (.tmp 90) rfl rfl w1.heap.size 1 1 #[.int .i64 (upOf ws hn hl x).2] rfl (Blk.new w1 _ _) rfl (by simp [Value.oneCell']) (by omega) (by omega) ?_; intro v' w' hown5 _ hB5 _))
          go_wp2
          go_roundw
          case rel =>
            refine ⟨k + 1, by go_num, by omega, ?_, ?_⟩
            · rw [ups_snoc Hx.out, icells, List.map_append]; exact hown5
            · exact (((hB.drew).trans (hb1.mono hWs)).alloc hW1 _).trans hB5
          case measure => simp [intOf]; omega
        · obtain rfl : na = k := by omega
          go_wp2
          go_meet
          exact ⟨hown, hB⟩
    case rest =>
      obtain ⟨hownR, hBR⟩ := hcut
      have g5 : IntKind.i64.wrap ((nb : Int) + 1 - 2) = (nb : Int) - 1 := by rw [IntWalk.i64_in _ (by omega)]; omega
      have hfin : routeL ws hn hl a b = ups ws hn hl (a.take na) ++ downs ws hn hl (b.take nb) := by rw [routeL, Hst.out]; rfl
      have Hfin := Lib.hid hfin; clear hfin
      go_wp2_with fail
      go_loopw [10, 12] (fun v i wx => ∃ (t : Nat) (cur : List Int), i = .int .i64 ((t : Int) - 1) ∧ t ≤ nb ∧ Hid (routeL ws hn hl a b = cur ++ downs ws hn hl (b.take t)) ∧ Hid (cur.length + t ≤ 100) ∧ wx.ownsRow W.heap.size 3 1 v cur.length (icells cur) ∧ Below W.heap.size W wx) (fun _ i _ => (intOf i + 1).toNat)
      case atStart =>
        refine ⟨nb, ups ws hn hl (a.take na), ?_, by omega, Hfin, ?_, ?_, hBR⟩
        · first | rfl | (congr 1; omega)
        · show _ ≤ _
          simp [ups]; omega
        · have e : (ups ws hn hl (a.take na)).length = na := by simp [ups]; omega
          rw [e]; exact hownR
      case round =>
        obtain ⟨t, cur, rfl, ht, Hcur, Hlen, hown, hB⟩ := hrel
        have b0 := bW.below hB bWs
        have c00 := b0.cell 0
        have c01 := b0.cell 1
        have c02 := b0.cell 2
        have c03 := b0.cell 3
        simp at c00 c01 c02 c03
        have hr1 := hrW.call hB
        have hWs := hB.size
        rcases t with _ | t
        · go_wp2
          go_ret2
          have e := Hcur.out
          rw [List.take_zero] at e
          have e2 : routeL ws hn hl a b = cur := by rw [e]; simp [downs]
          rw [e2]
          exact RetSE.of_own hown (hBW.trans (hB.mono (Nat.le_of_lt bWs)))
        · obtain ⟨x, hx⟩ : ∃ x, b[t]? = some x := ⟨_, List.getElem?_eq_getElem (by omega)⟩
          obtain ⟨b9', o9', hbo, hb9', hca⟩ := hrbW.addr (by omega) (by omega)
          obtain ⟨rfl, rfl⟩ : b9 = b9' ∧ o9 = o9' := by injection hbo with h; injection h with h1 h2; exact ⟨h1, h2⟩
          clear hbo
          have d1 := (hB.cell (p := ⟨b9, o9 + t, none⟩) hb9W).trans (hca _ _ (icells_get hx))
          clear hca
          have Hx := Lib.hid hx; clear hx
          have e1 : ((t + 1 : Nat) : Int) - 1 = (t : Int) := by omega
          rw [e1]
          clear e1
          obtain ⟨u, hu⟩ : ∃ u, upOf ws hn hl x = u := ⟨_, rfl⟩
          obtain ⟨u1, u2⟩ := u
          obtain ⟨q, hq⟩ : ∃ q, peerL ws u1 u2 = q := ⟨_, rfl⟩
          have hdn : downOf ws hn hl x = q.getD (0, 0) := by rw [downOf, hu, hq]
          have HU := Lib.hid (fun w hr => rup N hn hl A m c ws x w hr hm Hnet.out)
          have HP := Lib.hid (fun w hr => rpeer N hn hl u1 u2 A m c ws w hr hm)
          rw [hu] at HU
          rw [hq] at HP
          obtain ⟨q1, q2, hq12⟩ : ∃ q1 q2, q.getD (0, 0) = (q1, q2) := ⟨_, _, rfl⟩
          rw [hq12] at hdn
          have Hdn := Lib.hid hdn; clear hdn
          have hpv : peerV q = .tuple #[.agg #[.int .i64 q1, .int .i64 q2], .bool q.isSome] := by
            rcases q with _ | ⟨a, b⟩ <;> (simp at hq12; obtain ⟨rfl, rfl⟩ := hq12; rfl)
          rw [hpv] at HP
          clear hu hq hq12 hpv
          have l1 : (t : Int) < (nb : Int) + 1 := by omega
          have l2 : (0 : Int) ≤ (t : Int) := by omega
          have l3 : w.heap.size < wr.heap.size := by omega
          have l4 : b9 < wr.heap.size := by omega
          go_upto_region 18 with (fail)
          go_cut [13, 14] (fun s13 s14 wx => ∃ g6 : Nat, s13 = .pointer (some ⟨g6, 0, none⟩) ∧ Blk wx g6 24 #[.int .i64 q1, .int .i64 q2] ∧ Below wr.heap.size wr wx)
          case first =>
            go_region_held3 (fun w' => wr.heap.size ≤ w'.heap.size ∧ ∀ b o, b < wr.heap.size → w'.cell? ⟨b, o, none⟩ = wr.cell? ⟨b, o, none⟩)
              (first | exact SBel.drew | exact SBel.drew.alloc _ | exact SBel.drew.below hb1 | exact (SBel.drew.below hb1).alloc _ | exact (SBel.drew.alloc _).below hb1 | exact (SBel.drew.below hb1).below hb2 | exact ((SBel.drew.below hb1).below hb2).alloc _ | exact ((SBel.drew.below hb1).alloc _).below hb2 | exact ((SBel.drew.alloc _).below hb1).below hb2 | exact ((((SBel.drew.alloc _).below hb1).below hb2).set (by simp) _).set (by simp) _ | exact ((((SBel.drew.below hb1).alloc _).below hb2).set (p := ⟨w1.heap.size, 0, none⟩) hb1.size _).set (p := ⟨w1.heap.size, 1, none⟩) hb1.size _)
              (first
                | (go_at_call 27; refine (HU.out _ (by first | exact hr1 | exact hr1.alloc' _)).mono ?_; rintro e w1 ⟨rfl, hb1⟩; unfold ptV; have hr2 : Reads w1 w1.heap.size 4 A m (wcells ws) := (by first | exact Reads.call (w := wr.drew) hr1 hb1 | exact Reads.call (w := wr.drew.alloc _) (hr1.alloc' _) hb1))
                | (go_at_call 29; refine (HP.out _ (by first | exact hr2 | exact hr2.alloc' _)).mono ?_; rintro e w2 ⟨rfl, hb2⟩; (first | (have bz := ((Blk.new wr.drew 24 #[.int .i64 0, .int .i64 0]).call hb1).call hb2; have z0 := bz.cell 0; have z1 := bz.cell 1; have z2 := bz.frozen 0; have z3 := bz.frozen 1; simp at z0 z1 z2 z3) | (have bz := (Blk.new w1 24 #[.int .i64 0, .int .i64 0]).call hb2; have z0 := bz.cell 0; have z1 := bz.cell 1; have z2 := bz.frozen 0; have z3 := bz.frozen 1; simp at z0 z1 z2 z3) | skip)))
            · go_wp2
              go_meet
              have h12 : Below wr.heap.size wr w2 := ((Below.refl wr.heap.size wr).drew.trans hb1).trans (hb2.mono hb1.size)
              have k1 := h12.alloc h12.size (.cells #[.int .i64 q1, .int .i64 q2] 24)
              exact ⟨w2.heap.size, rfl, Blk.new _ _ _, k1⟩
            · go_wp2
              go_meet
              have h1 : Below wr.heap.size wr w1 := (Below.refl wr.heap.size wr).drew.trans hb1
              have h2 := (h1.alloc h1.size (.cells #[.int .i64 0, .int .i64 0] 24)).trans (hb2.mono (by have := h1.size; simp; omega))
              obtain ⟨k1, k2⟩ := fill2 h2 bz rfl h1.size (.int .i64 q1) (.int .i64 q2)
              exact ⟨w1.heap.size, rfl, k2, k1⟩
            · go_wp2
              go_meet
              have h1 : Below wr.heap.size wr w1 := ((Below.refl wr.heap.size wr).drew.alloc (Nat.le_refl _) _).trans (hb1.mono (by simp))
              have h2 := h1.trans (hb2.mono h1.size)
              obtain ⟨k1, k2⟩ := fill2 h2 bz rfl (Nat.le_refl _) (.int .i64 q1) (.int .i64 q2)
              exact ⟨wr.heap.size, rfl, k2, k1⟩
          case rest =>
            obtain ⟨g6, rfl, b6, k1⟩ := hcut
            have hown1 := hown.below k1
            have hB1 := hB.call hWs k1
            have hW1 := hB1.size
            clear hown hB c00 c01 c02 c03 d1 b0 hr1 HU HP k1 hWs
            have c61 := b6.cell 1
            simp at c61
            have hcl := Hlen.out
            go_wp2_with (at_builtin; refine app_own Try.underlying28 hi0 hz0 hz1 hz2 rfl (by decide) (hown1.alloc _) (by simp <;> omega) rfl (.tmp 110) (.tmp 113) rfl rfl wc.heap.size 1 1 #[.int .i64 q2] rfl (Blk.new wc _ _) rfl (by simp [Value.oneCell']) (by omega) (by omega) ?_; intro v' w' hown5 _ hB5 _)
            go_roundw
            case rel =>
              refine ⟨t, cur ++ [q2], ?_, by omega, ?_, ?_, ?_, (hB1.alloc (by omega) _).trans hB5⟩
              · first | rfl | (congr 1; omega)
              · show _ = _
                rw [Hcur.out, downs_cons Hx.out, Hdn.out, List.append_assoc]; rfl
              · show _ ≤ _
                rw [List.length_append]
                have := Hlen.out
                simp; omega
              · rw [List.length_append, icells, List.map_append]; exact hown5
            case measure => simp [intOf]
end Go.Proofs.Ytadpenphiagdmaa
