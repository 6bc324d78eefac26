/- Texts that belong together, joined: what each one holds is told ahead of it. -/
import Derived.Test.YtekamebpjjkifaaHK37
/- the walk of join -/
namespace Go.Proofs.Ytekamebpjjkifaa
open Go.RowKit
set_option linter.unusedVariables false
set_option linter.unusedSimpArgs false

def gcells (N hn hl : Int) (A : Option Addr) (m c r : Nat) : Array Value := #[.int .i64 N, .slice A m c, .int .i64 hn, .int .i64 hl, .map (some r)]

set_option maxRecDepth 100000 in
set_option maxHeartbeats 2000000 in
theorem tjoin (N hn hl : Int) (A : Option Addr) (m c : Nat) (ws : List Wire) (w : World) (hr : Reads w w.heap.size 4 A m (wcells ws)) (hm : m ≤ 1000000) :
    Calls Try.prog 42 #[.agg #[.int .i64 N, .slice A m c, .int .i64 hn, .int .i64 hl]] w (RetJ (joinB N hn hl ws) (gcells N hn hl A m c) (pairs ws) w) := by
  have hlen : ws.length = m := by have := hr.1; rw [wcells_length] at this; omega
  have Hlen := Lib.hid hlen; clear hlen
  obtain ⟨k1, k2⟩ := lay1 w #[.int .i64 N, .slice A m c, .int .i64 hn, .int .i64 hl] 40
  by_cases h1 : N < 1
  · rw [join_low h1]
    go_enter Try.func42, Try.ntmps42
    go_wp2
    all_goals first
      | (exfalso; omega)
      | (go_ret2; exact ⟨k1, .inl ⟨rfl, rfl⟩⟩)
  by_cases h8 : 8 < N
  · rw [join_high h8]
    go_enter Try.func42, Try.ntmps42
    go_wp2
    all_goals first
      | (exfalso; omega)
      | (go_ret2; exact ⟨k1, .inl ⟨rfl, rfl⟩⟩)
  by_cases h32 : 32 < m
  · rw [join_many (by rw [Hlen.out]; exact h32)]
    go_enter Try.func42, Try.ntmps42
    go_wp2
    all_goals first
      | (exfalso; omega)
      | (go_ret2; exact ⟨k1, .inl ⟨rfl, rfl⟩⟩)
  have hd1 : decide (N < 1) = false := by simp; omega
  have hd2 : decide (8 < N) = false := by simp; omega
  have hd3 : decide ((32 : Int) < (m : Int)) = false := by simp; omega
  have hr0 := hr.up k1 (by simp <;> omega)
  cases hex : existsB N hn hl
  · have Hx := Lib.hid hex
    rw [join_host hex]
    clear hex
    go_enter Try.func42, Try.ntmps42
    go_wp2_with (
      go_at_call 53
      refine (texists N hn hl _).mono ?_
      rintro e w1 ⟨rfl, hb1⟩
      rw [Hx.out])
    go_ret2
    exact ⟨k1.call (by simp <;> omega) hb1, .inl ⟨rfl, rfl⟩⟩
  have Hx := Lib.hid hex; clear hex
  have hmm := @run_makeMap Try.prog
  go_enter Try.func42, Try.ntmps42
  go_wp2_with (
    go_at_call 53
    refine (texists N hn hl _).mono ?_
    rintro e w1 ⟨rfl, hb1⟩
    rw [Hx.out]
    have b0 := k2.call hb1
    have c00 := b0.cell 0
    have c01 := b0.cell 1
    have c02 := b0.cell 2
    have c03 := b0.cell 3
    simp at c00 c01 c02 c03
    have b0s := b0.lt
    have hB := k1.call (by simp <;> omega) hb1)
  clear hd1 hd2 hd3 hmm c00 c01 c02 c03
  have bg := Blk.new (w1.alloc (.map #[] 0)) 92 (gcells N hn hl A m c w1.heap.size)
  have hM := (MapIs.new w1).alloc (.cells (gcells N hn hl A m c w1.heap.size) 92)
  have b0' := (b0.alloc (.map #[] 0)).alloc (.cells (gcells N hn hl A m c w1.heap.size) 92)
  have hB' := (hB.alloc (Nat.le_of_lt b0s) (.map #[] 0)).alloc (by simp; omega) (.cells (gcells N hn hl A m c w1.heap.size) 92)
  simp only [World.size_alloc] at bg
  obtain ⟨r, hr'⟩ : ∃ r, w1.heap.size = r := ⟨_, rfl⟩
  simp only [gcells] at *
  rw [hr'] at bg hM b0' hB' b0s ⊢
  generalize (w1.alloc (.map #[] 0)).alloc (.cells #[.int .i64 N, .slice A m c, .int .i64 hn, .int .i64 hl, .map (some r)] 92) = W1 at *
  clear hb1 b0 hB hr' k1 k2 hr0
  go_loopw [40] (fun i wx => ∃ k : Nat, i = .int .i64 k ∧ k ≤ m ∧ Hid (∀ j, j < k → wireAt N hn hl ws j = true) ∧ Below w.heap.size w wx ∧ Blk wx w.heap.size 40 #[.int .i64 N, .slice A m c, .int .i64 hn, .int .i64 hl] ∧ Blk wx (r + 1) 92 #[.int .i64 N, .slice A m c, .int .i64 hn, .int .i64 hl, .map (some r)] ∧ MapIs wx r (pairs (ws.take k))) (fun i _ => m - (intOf i).toNat)
  case atStart => exact ⟨0, rfl, by omega, fun j hj => (Nat.not_lt_zero j hj).elim, hB', b0', bg, hM⟩
  case round =>
    clear bg hM b0' hB'
    obtain ⟨k, rfl, hk, Hk, hB, b0, bg, hM⟩ := hrel
    have c00 := b0.cell 0
    have c02 := b0.cell 2
    have c03 := b0.cell 3
    have g4 := bg.cell 4
    simp at c00 c02 c03 g4
    have b0l := b0.lt
    have bgl := bg.lt
    by_cases hlt : k < m
    · obtain ⟨bk, off, rfl, hb, hc⟩ := (hr.below hB).addr (by omega) (by omega)
      obtain ⟨x, hx⟩ : ∃ x, ws[k]? = some x := ⟨_, List.getElem?_eq_getElem (by rw [Hlen.out]; omega)⟩
      have h0 := hc _ _ (wcells_get ws k x hx 0 _ rfl)
      have h1' := hc _ _ (wcells_get ws k x hx 1 _ rfl)
      have h2 := hc _ _ (wcells_get ws k x hx 2 _ rfl)
      have h3 := hc _ _ (wcells_get ws k x hx 3 _ rfl)
      have HX := Lib.hid hx; clear hx
      clear hc
      simp only [Nat.add_zero, ← Nat.add_assoc] at h0 h1' h2 h3
      have hkI : (k : Int) < (m : Int) := by omega
      have hbk : bk < wr.heap.size := by omega
      obtain ⟨E, hE⟩ : ∃ E, pairs (ws.take k) = E := ⟨_, rfl⟩
      rw [hE] at hM
      obtain ⟨q1, hq1⟩ : ∃ q, peerL (ws.take k) x.a x.b = q := ⟨_, rfl⟩
      obtain ⟨q2, hq2⟩ : ∃ q, peerL (ws.take k) x.c x.d = q := ⟨_, rfl⟩
      have l1 : lookL E (x.a, x.b) = q1 := by rw [← hE, lookL_pairs, hq1]
      have l2 : lookL E (x.c, x.d) = q2 := by rw [← hE, lookL_pairs, hq2]
      obtain ⟨u1, v1, e1⟩ : ∃ u v, q1.getD (0, 0) = (u, v) := ⟨_, _, rfl⟩
      obtain ⟨u2, v2, e2⟩ : ∃ u v, q2.getD (0, 0) = (u, v) := ⟨_, _, rfl⟩
      have p1 : peerV q1 = .tuple #[.agg #[.int .i64 u1, .int .i64 v1], .bool q1.isSome] := by
        rcases q1 with _ | ⟨a, b⟩ <;> (simp at e1; obtain ⟨rfl, rfl⟩ := e1; rfl)
      have p2 : peerV q2 = .tuple #[.agg #[.int .i64 u2, .int .i64 v2], .bool q2.isSome] := by
        rcases q2 with _ | ⟨a, b⟩ <;> (simp at e2; obtain ⟨rfl, rfl⟩ := e2; rfl)
      have LK : ∀ w', MapIs w' r E → (Instr.lookup 90 (.map (some r)) (.agg #[.int .i64 x.a, .int .i64 x.b]) true).run Try.prog w' = .ok (.tuple #[.agg #[.int .i64 u1, .int .i64 v1], .bool q1.isSome]) w' ∧
          (Instr.lookup 90 (.map (some r)) (.agg #[.int .i64 x.c, .int .i64 x.d]) true).run Try.prog w' = .ok (.tuple #[.agg #[.int .i64 u2, .int .i64 v2], .bool q2.isSome]) w' := fun w' hm => by
        rw [run_lookup61 hm, run_lookup61 hm, l1, l2, p1, p2]; exact ⟨rfl, rfl⟩
      have HLK := Lib.hid LK; clear LK
      have HE := Lib.hid hE; clear hE
      have HQ1 := Lib.hid hq1; clear hq1
      have HQ2 := Lib.hid hq2; clear hq2
      clear p1 p2 e1 e2 l1 l2
      go_upto_region 7 with (fail)
      have b6 := Blk.new wr 94 #[.int .i64 x.a, .int .i64 x.b, .int .i64 x.c, .int .i64 x.d]
      have k6 : Below wr.heap.size wr (wr.alloc (.cells #[.int .i64 x.a, .int .i64 x.b, .int .i64 x.c, .int .i64 x.d] 94)) := (Below.refl _ _).alloc (Nat.le_refl _) _
      obtain ⟨g6, hg6⟩ : ∃ g6, wr.heap.size = g6 := ⟨_, rfl⟩
      have b0a := b0.call k6
      have bga := bg.call k6
      have hMa := hM.call k6
      have hBa := hB.call (Nat.le_of_lt b0l) k6
      clear b0 bg hM hB c00 c02 c03 g4 h0 h1' h2 h3 hbk
      rw [hg6] at b6 ⊢
      clear k6 hg6 b0l bgl
      generalize wr.alloc (.cells #[.int .i64 x.a, .int .i64 x.b, .int .i64 x.c, .int .i64 x.d] 94) = W6 at *
      have c60 := b6.cell 0
      have c61 := b6.cell 1
      have c62 := b6.cell 2
      have c63 := b6.cell 3
      have g4 := bga.cell 4
      simp at c60 c61 c62 c63 g4
      have b0l := b0a.lt
      have bgl := bga.lt
      have b6l := b6.lt
      go_cut [7, 8] (fun s7 s8 wx => ∃ g7 : Nat, s7 = .pointer (some ⟨g7, 0, none⟩) ∧ s8 = .bool q1.isSome ∧ Below W6.heap.size W6 wx)
      case first =>
        go_region_held3 (fun w' => W6.heap.size ≤ w'.heap.size ∧ (∀ b o, b < W6.heap.size → w'.cell? ⟨b, o, none⟩ = W6.cell? ⟨b, o, none⟩) ∧
            (Instr.lookup 90 (.map (some r)) (.agg #[.int .i64 x.a, .int .i64 x.b]) true).run Try.prog w' = .ok (.tuple #[.agg #[.int .i64 u1, .int .i64 v1], .bool q1.isSome]) w')
          (first | exact ⟨SBel.drew.1, SBel.drew.2, (HLK.out _ hMa.drew).1⟩ | exact ⟨(SBel.drew.alloc _).1, (SBel.drew.alloc _).2, (HLK.out _ (hMa.drew.alloc _)).1⟩)
          (fail)
        all_goals
          go_wp2
          go_meet
          exact ⟨W6.heap.size, rfl, rfl, (Below.refl W6.heap.size W6).drew.alloc (Nat.le_refl _) _⟩
      case rest =>
        obtain ⟨g7, rfl, rfl, k7⟩ := hcut
        have b0b := b0a.call k7
        have bgb := bga.call k7
        have hMb := hMa.call k7
        have hBb := hBa.call (Nat.le_of_lt b0l) k7
        have b6b := b6.call k7
        clear b0a bga hMa hBa b6 c60 c61 c62 c63 g4 b0l bgl b6l k7
        have c60 := b6b.cell 0
        have c61 := b6b.cell 1
        have c62 := b6b.cell 2
        have c63 := b6b.cell 3
        have g4 := bgb.cell 4
        simp at c60 c61 c62 c63 g4
        have b0l := b0b.lt
        have bgl := bgb.lt
        have b6l := b6b.lt
        go_upto_region 8 with (fail)
        go_cut [9, 10] (fun s9 s10 wx => ∃ g9 : Nat, s9 = .pointer (some ⟨g9, 0, none⟩) ∧ s10 = .bool q2.isSome ∧ Below wc.heap.size wc wx)
        case first =>
          go_region_held3 (fun w' => wc.heap.size ≤ w'.heap.size ∧ (∀ b o, b < wc.heap.size → w'.cell? ⟨b, o, none⟩ = wc.cell? ⟨b, o, none⟩) ∧
              (Instr.lookup 90 (.map (some r)) (.agg #[.int .i64 x.c, .int .i64 x.d]) true).run Try.prog w' = .ok (.tuple #[.agg #[.int .i64 u2, .int .i64 v2], .bool q2.isSome]) w')
            (first | exact ⟨SBel.drew.1, SBel.drew.2, (HLK.out _ hMb.drew).2⟩ | exact ⟨(SBel.drew.alloc _).1, (SBel.drew.alloc _).2, (HLK.out _ (hMb.drew.alloc _)).2⟩)
            (fail)
          all_goals
            go_wp2
            go_meet
            exact ⟨wc.heap.size, rfl, rfl, (Below.refl wc.heap.size wc).drew.alloc (Nat.le_refl _) _⟩
        case rest =>
          obtain ⟨g9, rfl, rfl, k9⟩ := hcut
          have b0c := b0b.call k9
          have bgc := bgb.call k9
          have hMc := hMb.call k9
          have hBc := hBb.call (Nat.le_of_lt b0l) k9
          have b6c := b6b.call k9
          clear b0b bgb hMb hBb b6b c60 c61 c62 c63 g4 b0l bgl b6l k9 HLK
          generalize wc = W9 at *
          have c60 := b6c.cell 0
          have c61 := b6c.cell 1
          have c62 := b6c.cell 2
          have c63 := b6c.cell 3
          have c00 := b0c.cell 0
          have c02 := b0c.cell 2
          have c03 := b0c.cell 3
          simp at c60 c61 c62 c63 c00 c02 c03
          have b0l := b0c.lt
          have bgl := bgc.lt
          have b6l := b6c.lt
          have hMl := hMc.lt
          generalize hs1 : q1.isSome = s1 at *
          generalize hs2 : q2.isSome = s2 at *
          have hw : wireOk N hn hl (ws.take k) x = (!s1 && !s2 && !(x.a == x.c) && !portEq x.a x.b hn hl && !portEq x.c x.d hn hl && existsB N x.a x.b && existsB N x.c x.d) := by
            rw [wireOk, HQ1.out, HQ2.out, hs1, hs2]
          have HW := Lib.hid hw
          clear hs1 hs2 hw
          have hE1 := Lib.hid (fun w => texists N x.a x.b w)
          have hE2 := Lib.hid (fun w => texists N x.c x.d w)
          go_upto_region 9 with (fail)
          go_cut [106] (fun s wx => s = .bool (!wireOk N hn hl (ws.take k) x) ∧ Below W9.heap.size W9 wx)
          case first =>
            cases s1
            case true => (go_wp2_with fail; go_meet; exact ⟨by simp [HW.out], Below.refl _ _⟩)
            cases s2
            case true => (go_wp2_with fail; go_meet; exact ⟨by simp [HW.out], Below.refl _ _⟩)
            cases t1 : (x.a == x.c)
            case true => (go_wp2_with fail; go_meet; exact ⟨by simp [HW.out, t1], Below.refl _ _⟩)
            cases t2 : portEq x.a x.b hn hl
            case true => (go_wp2_with fail; go_meet; exact ⟨by simp [HW.out, t1, t2], Below.refl _ _⟩)
            cases t3 : portEq x.c x.d hn hl
            case true => (go_wp2_with fail; go_meet; exact ⟨by simp [HW.out, t1, t2, t3], Below.refl _ _⟩)
            cases t4 : existsB N x.a x.b
            case false =>
              have T4 := Lib.hid t4; clear t4
              go_wp2_with (go_at_call 53; refine (hE1.out _).mono ?_; rintro e w1 ⟨rfl, hb1⟩; rw [T4.out])
              go_meet
              exact ⟨by simp [HW.out, t1, t2, t3, T4.out], hb1⟩
            have T4 := Lib.hid t4; clear t4
            cases t5 : existsB N x.c x.d
            case false =>
              have T5 := Lib.hid t5; clear t5
              go_wp2_with fail
              refine (hE1.out _).mono ?_
              rintro e w1 ⟨rfl, hb1⟩
              rw [T4.out]
              obtain ⟨hc1, hf1⟩ := bcell hb1
              go_wp2_with fail
              refine (hE2.out _).mono ?_
              rintro e w2 ⟨rfl, hb2⟩
              rw [T5.out]
              go_wp2_with fail
              go_meet
              exact ⟨by simp [HW.out, t1, t2, t3, T4.out, T5.out], hb1.trans (hb2.mono hb1.size)⟩
            have T5 := Lib.hid t5; clear t5
            go_wp2_with fail
            refine (hE1.out _).mono ?_
            rintro e w1 ⟨rfl, hb1⟩
            rw [T4.out]
            obtain ⟨hc1, hf1⟩ := bcell hb1
            go_wp2_with fail
            refine (hE2.out _).mono ?_
            rintro e w2 ⟨rfl, hb2⟩
            rw [T5.out]
            go_wp2_with fail
            go_meet
            exact ⟨by simp [HW.out, t1, t2, t3, T4.out, T5.out], hb1.trans (hb2.mono hb1.size)⟩
          case rest =>
            obtain ⟨rfl, k10⟩ := hcut
            have b0d := b0c.call k10
            have bgd := bgc.call k10
            have hMd := hMc.call k10
            have hBd := hBc.call (Nat.le_of_lt b0l) k10
            have b6d := b6c.call k10
            clear b0c bgc hMc hBc b6c c60 c61 c62 c63 c00 c02 c03 b0l bgl b6l hMl k10 hE1 hE2
            cases hw : wireOk N hn hl (ws.take k) x
            · have Hw := Lib.hid hw; clear hw
              go_wp2
              go_ret2
              rw [join_wire HX.out Hw.out]
              exact ⟨hBd, .inl ⟨rfl, rfl⟩⟩
            · have Hw := Lib.hid hw; clear hw
              go_upto_region 11 with (fail)
              generalize wc = W10 at *
              have c60 := b6d.cell 0
              have c61 := b6d.cell 1
              have c62 := b6d.cell 2
              have c63 := b6d.cell 3
              have g4 := bgd.cell 4
              simp at c60 c61 c62 c63 g4
              have b0l := b0d.lt
              have bgl := bgd.lt
              have b6l := b6d.lt
              have hw := Hw.out
              simp only [wireOk, Bool.and_eq_true, Bool.not_eq_true'] at hw
              obtain ⟨⟨⟨⟨⟨⟨n1, n2⟩, n3⟩, _⟩, _⟩, _⟩, _⟩ := hw
              have nA : lookL E (x.a, x.b) = none := by rw [← HE.out, lookL_pairs]; simpa using n1
              have nB : lookL (E ++ [((x.a, x.b), (x.c, x.d))]) (x.c, x.d) = none := by
                have h0 : lookL E (x.c, x.d) = none := by rw [← HE.out, lookL_pairs]; simpa using n2
                simp only [lookL, Option.map_eq_none_iff, List.find?_append, Option.or_eq_none_iff] at h0 ⊢
                refine ⟨h0, ?_⟩
                have : portEq x.c x.d x.a x.b = false := by
                  simp only [portEq, decide_eq_false_iff_not]
                  rintro ⟨e, _⟩
                  simp at n3; exact n3 e.symm
                simp [this]
              have e1 := run_entry61 hMd.drew nA
              have m1 := (hMd.drew).put (F := E ++ [((x.a, x.b), (0, 0))])
              simp only [List.length_append, List.length_cons, List.length_nil, Nat.zero_add] at m1
              have bV1 := b0d.drew.putMap hMd.drew (.map (ents (E ++ [((x.a, x.b), (0, 0))])) (E.length + 1))
              have gV1 := bgd.drew.putMap hMd.drew (.map (ents (E ++ [((x.a, x.b), (0, 0))])) (E.length + 1))
              have kV1 := (hBd.drew).putObj (Nat.le_of_lt b0s) (.map (ents (E ++ [((x.a, x.b), (0, 0))])) (E.length + 1))
              have sV1 := SBl.putMap (SBl.drew (Nat.le_refl W10.heap.size)) hMd.drew (ents (E ++ [((x.a, x.b), (0, 0))])) (E.length + 1)
              generalize W10.drew.putObj r (.map (ents (E ++ [((x.a, x.b), (0, 0))])) (E.length + 1)) = V1 at *
              have e2 := run_estore61 (v := (x.c, x.d)) m1
              have m2 := m1.put (F := E ++ [((x.a, x.b), (x.c, x.d))])
              simp only [List.length_append, List.length_cons, List.length_nil, Nat.zero_add] at m2
              have bV2 := bV1.putMap m1 (.map (ents (E ++ [((x.a, x.b), (x.c, x.d))])) (E.length + 1))
              have gV2 := gV1.putMap m1 (.map (ents (E ++ [((x.a, x.b), (x.c, x.d))])) (E.length + 1))
              have kV2 := kV1.putObj (Nat.le_of_lt b0s) (.map (ents (E ++ [((x.a, x.b), (x.c, x.d))])) (E.length + 1))
              have sV2 := SBl.putMap sV1 m1 (ents (E ++ [((x.a, x.b), (x.c, x.d))])) (E.length + 1)
              generalize V1.putObj r (.map (ents (E ++ [((x.a, x.b), (x.c, x.d))])) (E.length + 1)) = V2 at *
              have e3 := run_entry61 m2 nB
              have m3 := m2.put (F := E ++ [((x.a, x.b), (x.c, x.d))] ++ [((x.c, x.d), (0, 0))])
              simp only [List.length_append, List.length_cons, List.length_nil, Nat.zero_add] at m3 e3
              have bV3 := bV2.putMap m2 (.map (ents (E ++ [((x.a, x.b), (x.c, x.d))] ++ [((x.c, x.d), (0, 0))])) (E.length + 1 + 1))
              have gV3 := gV2.putMap m2 (.map (ents (E ++ [((x.a, x.b), (x.c, x.d))] ++ [((x.c, x.d), (0, 0))])) (E.length + 1 + 1))
              have kV3 := kV2.putObj (Nat.le_of_lt b0s) (.map (ents (E ++ [((x.a, x.b), (x.c, x.d))] ++ [((x.c, x.d), (0, 0))])) (E.length + 1 + 1))
              have sV3 := SBl.putMap sV2 m2 (ents (E ++ [((x.a, x.b), (x.c, x.d))] ++ [((x.c, x.d), (0, 0))])) (E.length + 1 + 1)
              generalize V2.putObj r (.map (ents (E ++ [((x.a, x.b), (x.c, x.d))] ++ [((x.c, x.d), (0, 0))])) (E.length + 1 + 1)) = V3 at *
              have e4 := run_estore61 (v := (x.a, x.b)) m3
              have m4 := m3.put (F := E ++ [((x.a, x.b), (x.c, x.d))] ++ [((x.c, x.d), (x.a, x.b))])
              simp only [List.length_append, List.length_cons, List.length_nil, Nat.zero_add] at m4 e4
              have bV4 := bV3.putMap m3 (.map (ents (E ++ [((x.a, x.b), (x.c, x.d))] ++ [((x.c, x.d), (x.a, x.b))])) (E.length + 1 + 1))
              have gV4 := gV3.putMap m3 (.map (ents (E ++ [((x.a, x.b), (x.c, x.d))] ++ [((x.c, x.d), (x.a, x.b))])) (E.length + 1 + 1))
              have kV4 := kV3.putObj (Nat.le_of_lt b0s) (.map (ents (E ++ [((x.a, x.b), (x.c, x.d))] ++ [((x.c, x.d), (x.a, x.b))])) (E.length + 1 + 1))
              have sV4 := SBl.putMap sV3 m3 (ents (E ++ [((x.a, x.b), (x.c, x.d))] ++ [((x.c, x.d), (x.a, x.b))])) (E.length + 1 + 1)
              generalize V3.putObj r (.map (ents (E ++ [((x.a, x.b), (x.c, x.d))] ++ [((x.c, x.d), (x.a, x.b))])) (E.length + 1 + 1)) = V4 at *
              have ec : ((E.length + 1 : Nat) : Int) = (E.length : Int) + 1 := by omega
              rw [ec] at e3 e4
              clear ec
              rw [← HE.out, ← pairs_take HX.out] at m4
              have HM4 := Lib.hid m4
              clear m1 m2 m3 m4 bV1 bV2 bV3 gV1 gV2 gV3 kV1 kV2 kV3 nA nB n1 n2 n3
              have HB4 := Lib.hid bV4; clear bV4
              have HG4 := Lib.hid gV4; clear gV4
              have HK4 := Lib.hid kV4; clear kV4
              have HS1 := Lib.hid sV1; clear sV1
              have HS2 := Lib.hid sV2; clear sV2
              have HS3 := Lib.hid sV3; clear sV3
              have HS4 := Lib.hid sV4; clear sV4
              go_region_held3 (fun w' => W10.heap.size ≤ w'.heap.size ∧ ∀ b o, b < W10.heap.size → w'.cell? ⟨b, o, none⟩ = W10.cell? ⟨b, o, none⟩)
                (first | exact SBel.drew | exact HS1.out | exact HS2.out | exact HS3.out | exact HS4.out)
                (fail)
              go_wp2
              go_roundw
              case rel =>
                refine ⟨k + 1, by go_num, by omega, fun j hj => ?_, HK4.out, HB4.out, HG4.out, HM4.out⟩
                rcases Nat.lt_or_ge j k with hjk | hjk
                · exact Hk.out j hjk
                · obtain rfl : k = j := by omega
                  rw [wireAt, HX.out]; exact Hw.out
              case measure => simp [intOf]; omega
    · obtain rfl : m = k := by omega
      go_wp2
      go_ret2
      have hj : joinB N hn hl ws = true := join_yes (by omega) (by omega) (by rw [Hlen.out]; omega) Hx.out (fun j hj => Hk.out j (by rw [← Hlen.out]; exact hj))
      rw [List.take_of_length_le (by rw [Hlen.out]; omega)] at hM
      rw [hj]
      exact ⟨hB, .inr ⟨rfl, r + 1, r, rfl, bg, hM, by omega⟩⟩
end Go.Proofs.Ytekamebpjjkifaa
