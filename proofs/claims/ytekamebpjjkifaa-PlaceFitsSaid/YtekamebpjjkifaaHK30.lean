/- Texts that belong together, joined: what each one holds is told ahead of it. -/
import Derived.Test.YtekamebpjjkifaaHK29
/- A process of a kernel, walked in the program: what is inside it. -/
namespace Go.Proofs.Ytekamebpjjkifaa
open Go.RowKit
set_option linter.unusedSimpArgs false
set_option linter.unusedVariables false

set_option maxRecDepth 100000 in
set_option maxHeartbeats 8000000 in
theorem kProc_t (k : KK) (p : KP) (hil : ∀ x ∈ p.l, ProcOk k x) (hig : ∀ g ∈ p.g, ∀ x ∈ g.body, ProcOk k x) (deep left : Nat) (B bc : Nat) (w : World) (hd : deep < 32) (hl : left ≤ 2048) (hl0 : left ≠ 0) (hc : Chk w B bc k left) (hi : p.In w B) (hV : checkV bc p.kind ≠ Value.nilFunc) (hck : checkB k.vars k.chans.length p = true) (h11 : p.kind ≠ 11) :
    Calls Try.prog 35 #[.pointer (some ⟨bc, 0, none⟩), .agg p.cells, .int .i64 ((deep : Int) + 1), .bool true] w (RetPr (behindG k.vars k.chans.length (deep + 1) true (roomPs k.vars k.chans.length (deep + 1) true false (left - 1) p.l) p.g) bc k w) := by
  have HGB : Hid (∀ g ∈ p.g, ∃ q, g.body = [q]) := Lib.hid fun g hg => by
    obtain ⟨c, hgb⟩ := checkB_guards hck g hg
    exact guardB_body hgb
  have S0 := prAt_start (ps := p.cells) hc
  have HCK := Lib.hid (fun w1 => k_check bc p.kind w1)
  have hone := hi.one
  have HIN := Lib.hid hi
  have HLT := Lib.hid hc.lt
  have b0 := (hc.blk.call ((Below.refl w.heap.size w).alloc (Nat.le_refl _) (.cells p.cells 31)))
  have y11 : ((p.kind : Int) == 11) = false := by simp; omega
  have y1 : ¬ (left : Int) - 1 < 0 := by omega
  have y2 : ¬ (32 : Int) < (deep : Int) + 1 := by omega
  obtain ⟨F, hF, hEN, hFC⟩ := checkV_ok k ((left : Int) - 1) p B bc hV
  rw [hF] at HCK
  have HIO := Lib.hid hone
  have HF := Lib.hid hFC
  rw [hck] at HF
  clear hV hF hFC hck
  have hlen := hone.1.2.2.2.2.2
  have hlen2 := hone.1.2.2.2.2.1
  unfold lenOk at hlen hlen2
  obtain ⟨m, hm⟩ : ∃ m, p.l.length = m := ⟨_, rfl⟩
  obtain ⟨mg, hmg⟩ : ∃ m, p.g.length = m := ⟨_, rfl⟩
  have HM := Lib.hid hm
  have HMG := Lib.hid hmg
  rw [hm] at hlen
  rw [hmg] at hlen2
  have HIL := Lib.hid hil
  have HIG := Lib.hid hig
  have HN0 := Lib.hid hl0
  have hn1 : (left : Int) - 1 = ((left - 1 : Nat) : Int) := by omega
  have HN1 := Lib.hid hn1
  generalize hW0 : w.alloc (.cells p.cells 31) = W0 at *
  generalize hW1 : W0.setCell ⟨bc, 11, none⟩ (.int .i64 ((left : Int) - 1)) = W1 at *
  have S : Hid (PrAt w W1 B bc k ((left : Int) - 1) p.cells) := Lib.hid S0
  have z11 : W0.cell? ⟨bc, 11, none⟩ = some (.int .i64 left) := by have := b0.cell 11; simpa [KK.row, KP.cells] using this
  have f11 := b0.frozen 11
  have bW0 : Blk W0 w.heap.size 31 p.cells := by rw [← hW0]; exact Blk.new _ _ _
  simp only [KP.cells, hm, hmg] at hW0 S HF bW0 ⊢
  have x1 := S.out.pb
  have x2 := S.out.chk.c11
  have e0 := x1.cell 0
  have e1 := x1.cell 1
  have e2 := x1.cell 2
  have e3 := x1.cell 3
  have e4 := x1.cell 4
  have e5 := x1.cell 5
  have e6 := x1.cell 6
  have e7 := x1.cell 7
  simp at e0 e1 e2 e3 e4 e5 e6 e7
  clear x1 S0 b0 hc hi bW0 hone hm hmg hil hig hl0 hn1 h11
  go_enter Try.func35, Try.ntmps35
  go_upto_block 0 with (first
    | (go_at_call 45; (with_reducible refine (HCK.out _).mono ?_); rintro e1 w1 ⟨rfl, hb1⟩
       replace S := Lib.hid (S.out.call hb1)
       have x1 := S.out.pb
       have x2 := S.out.chk.c11
       have e0 := x1.cell 0
       have e1 := x1.cell 1
       have e2 := x1.cell 2
       have e3 := x1.cell 3
       have e4 := x1.cell 4
       have e5 := x1.cell 5
       have e6 := x1.cell 6
       have e7 := x1.cell 7
       simp at e0 e1 e2 e3 e4 e5 e6 e7
       clear x1 hb1)
    | ((with_reducible refine (HF.out _ S.out.chk (S.out.low1 HIO.out)).mono ?_); rintro e1 w1 ⟨rfl, hb1⟩
       replace S := Lib.hid (S.out.call hb1)
       have x1 := S.out.pb
       have x2 := S.out.chk.c11
       have e0 := x1.cell 0
       have e1 := x1.cell 1
       have e2 := x1.cell 2
       have e3 := x1.cell 3
       have e4 := x1.cell 4
       have e5 := x1.cell 5
       have e6 := x1.cell 6
       have e7 := x1.cell 7
       simp at e0 e1 e2 e3 e4 e5 e6 e7
       clear x1 hb1))
  clear HCK HF HIO hEN
  have S1 : Hid (PrAt w w1 B bc k ((left - 1 : Nat) : Int) #[.int .u8 p.kind, .int .i64 p.c, .int .i64 p.v, .int .u8 p.item, .slice p.At p.tos.length p.ct, .slice p.Ae p.e.length p.ce, .slice p.Ag mg p.cg, .slice p.Al m p.cl]) := Lib.hid (by rw [← HN1.out]; exact S.out)
  clear S
  go_cut [55] (fun s55 wx => ∃ r : Nat, Hid (PrAt w wx B bc k (r : Int) #[.int .u8 p.kind, .int .i64 p.c, .int .i64 p.v, .int .u8 p.item, .slice p.At p.tos.length p.ct, .slice p.Ae p.e.length p.ce, .slice p.Ag mg p.cg, .slice p.Al m p.cl]) ∧ Hid (roomPs k.vars k.chans.length (deep + 1) true false (left - 1) p.l = some r) ∧ Hid (r ≤ 2048))
  case first =>
    go_wp2_with fail
    go_loopw [55] (fun i wr => ∃ (j r : Nat), j ≤ m ∧ i = .int .i64 j ∧ Hid (PrAt w wr B bc k (r : Int) #[.int .u8 p.kind, .int .i64 p.c, .int .i64 p.v, .int .u8 p.item, .slice p.At p.tos.length p.ct, .slice p.Ae p.e.length p.ce, .slice p.Ag mg p.cg, .slice p.Al m p.cl]) ∧ Hid (roomPs k.vars k.chans.length (deep + 1) true false (left - 1) (p.l.take j) = some r) ∧ Hid (r ≤ 2048)) (fun i _ => m - (intOf i).toNat)
    case atStart => exact ⟨0, left - 1, Nat.zero_le _, rfl, S1, Lib.hid (by rw [List.take_zero, roomPs]), Lib.hid (by omega)⟩
    case round =>
      clear S1 e0 e1 e2 e3 e4 e5 e6 e7 x2
      obtain ⟨j, r, hj, rfl, S, HST, HRR⟩ := hrel
      have x1 := S.out.pb
      have hpw := x1.lt
      have e0 := x1.cell 0
      have e1 := x1.cell 1
      have e2 := x1.cell 2
      have e3 := x1.cell 3
      have e4 := x1.cell 4
      have e5 := x1.cell 5
      have e6 := x1.cell 6
      have e7 := x1.cell 7
      simp at e0 e1 e2 e3 e4 e5 e6 e7
      clear x1
      by_cases hlt : j < m
      · have hltI : (j : Int) < m := by omega
        have hin := S.out.low HIN.out
        have hBw := S.out.chk.leB
        have hst := HST.out
        obtain ⟨b, off, x, hA, hb, hx, hmx, c0, c1, c2, c3, c4, c5, c6, c7⟩ := kps_at hin.one.2.2.2.2 rfl (k := j) (by rw [HM.out]; exact hlt)
        have hbw : b < wr.heap.size := Nat.lt_of_lt_of_le hb hBw
        rw [hA] at e7
        have S2 := Lib.hid (S.out.call ((Below.refl wr.heap.size wr).alloc (Nat.le_refl _) (.cells x.cells 31)))
        have bx := Blk.new wr 31 x.cells
        simp only [KP.cells] at S2 bx
        have HB := Lib.hid bx
        clear bx
        go_upto_region 8 with fail
        generalize wr.alloc _ = w2 at *
        have x1 := S2.out.pb
        have bx := HB.out
        clear c0 c1 c2 c3 c4 c5 c6 c7 e0 e1 e2 e3 e4 e5 e6 e7 HB S
        have e0 := x1.cell 0
        have e1 := x1.cell 1
        have e2 := x1.cell 2
        have e3 := x1.cell 3
        have e4 := x1.cell 4
        have e5 := x1.cell 5
        have e6 := x1.cell 6
        have e7 := x1.cell 7
        simp at e0 e1 e2 e3 e4 e5 e6 e7
        have d0 := bx.cell 0
        have d1 := bx.cell 1
        have d2 := bx.cell 2
        have d3 := bx.cell 3
        have d4 := bx.cell 4
        have d5 := bx.cell 5
        have d6 := bx.cell 6
        have d7 := bx.cell 7
        simp at d0 d1 d2 d3 d4 d5 d6 d7
        clear x1 bx
        have HC : Hid (∀ w1 : World, PrAt w w1 B bc k (r : Int) #[.int .u8 p.kind, .int .i64 p.c, .int .i64 p.v, .int .u8 p.item, .slice p.At p.tos.length p.ct, .slice p.Ae p.e.length p.ce, .slice p.Ag mg p.cg, .slice p.Al m p.cl] → Calls Try.prog 35 #[.pointer (some ⟨bc, 0, none⟩), .agg x.cells, .int .i64 ((deep : Int) + 1 + 1), .bool true] w1 (RetPr (roomP k.vars k.chans.length (deep + 1) true r x) bc k w1)) := Lib.hid fun w1 h => by
          have h2 := HIL.out x hmx (deep + 1) r true B bc w1 (by omega) HRR.out h.chk ((h.low HIN.out).part hmx)
          have h3 : ((deep + 1 : Nat) : Int) = (deep : Int) + 1 := by omega
          rw [h3] at h2
          exact h2
        have hsn := roomPs_snoc (vs := k.vars) (nc := k.chans.length) (deep := deep + 1) (high := true) (first := false) (left := left - 1) hx hst
        have hfl := roomPs_fail (vs := k.vars) (nc := k.chans.length) (deep := deep + 1) (high := true) (first := false) (left := left - 1) hx hst
        have hb2 : (true || (false && decide (j = 0))) = true := rfl
        rw [hb2] at hsn hfl
        have HSN : Hid (roomPs k.vars k.chans.length (deep + 1) true false (left - 1) (p.l.take (j + 1)) = roomP k.vars k.chans.length (deep + 1) true r x) := Lib.hid hsn
        have HFL : Hid (roomP k.vars k.chans.length (deep + 1) true r x = none → roomPs k.vars k.chans.length (deep + 1) true false (left - 1) p.l = none) := Lib.hid hfl
        have HRL : Hid (∀ r2, roomP k.vars k.chans.length (deep + 1) true r x = some r2 → r2 ≤ r) := Lib.hid fun r2 h => roomP_le x _ _ _ _ h
        generalize roomP k.vars k.chans.length (deep + 1) true r x = so2 at *
        simp only [KP.cells] at HC
        clear hx hmx hA hst hsn hfl hin
        go_wp2_with (first
          | (go_at_call 35; (with_reducible refine (HC.out _ S2.out).mono ?_); rintro e1 w3 ⟨hu, b3, z3, rfl, hb3, hor⟩
             have S3 := Lib.hid (S2.out.step hu hb3)
             clear hu hb3 S2
             rcases hor with ⟨hn, rfl⟩ | ⟨r2, hn, rfl, rfl⟩))
        · go_ret
          exact ⟨S3.out.upd, false, _, rfl, S3.out.chk.blk, .inl ⟨by rw [HFL.out hn]; rfl, rfl⟩⟩
        · go_roundw
          case rel => exact ⟨j + 1, r2, by omega, by go_num, S3, Lib.hid (HSN.out.trans hn), Lib.hid (Nat.le_trans (HRL.out r2 hn) HRR.out)⟩
          case measure => simp [intOf]; omega
      · have hltI : ¬ (j : Int) < m := by omega
        obtain rfl : m = j := by omega
        have htk : p.l.take m = p.l := List.take_of_length_le (by rw [HM.out]; omega)
        have hst := HST.out
        rw [htk] at hst
        have HX1 := Lib.hid hst
        clear htk hst
        go_wp2_with fail
        go_meet
        exact ⟨r, S, HX1, HRR⟩
  case rest =>
    obtain ⟨r, S, HX1, HRR⟩ := hcut
    have x1 := S.out.pb
    have e0 := x1.cell 0
    have e1 := x1.cell 1
    have e2 := x1.cell 2
    have e3 := x1.cell 3
    have e4 := x1.cell 4
    have e5 := x1.cell 5
    have e6 := x1.cell 6
    have e7 := x1.cell 7
    simp at e0 e1 e2 e3 e4 e5 e6 e7
    clear x1 HIL S1 HN1 HN0 HLT
    go_wp2_with fail
    go_loopw [80] (fun i wr => ∃ (j2 r2 : Nat), j2 ≤ mg ∧ i = .int .i64 j2 ∧ Hid (PrAt w wr B bc k (r2 : Int) #[.int .u8 p.kind, .int .i64 p.c, .int .i64 p.v, .int .u8 p.item, .slice p.At p.tos.length p.ct, .slice p.Ae p.e.length p.ce, .slice p.Ag mg p.cg, .slice p.Al m p.cl]) ∧ Hid (behindG k.vars k.chans.length (deep + 1) true (some r) (p.g.take j2) = some r2) ∧ Hid (r2 ≤ 2048)) (fun i _ => mg - (intOf i).toNat)
    case atStart => exact ⟨0, r, Nat.zero_le _, rfl, S, Lib.hid behindG_nil, HRR⟩
    case round =>
      clear S e0 e1 e2 e3 e4 e5 e6 e7
      obtain ⟨j2, r2, hj2, rfl, S, HST, HR2⟩ := hrel
      have x1 := S.out.pb
      have hpw := x1.lt
      have e0 := x1.cell 0
      have e1 := x1.cell 1
      have e2 := x1.cell 2
      have e3 := x1.cell 3
      have e4 := x1.cell 4
      have e5 := x1.cell 5
      have e6 := x1.cell 6
      have e7 := x1.cell 7
      simp at e0 e1 e2 e3 e4 e5 e6 e7
      clear x1
      by_cases hlt : j2 < mg
      · have hltI : (j2 : Int) < mg := by omega
        have hin := S.out.low HIN.out
        have hBw := S.out.chk.leB
        have hst := HST.out
        obtain ⟨b, off, g, hA, hb, hx, hmx, hG⟩ := kgs_at hin.one.2.2.2.1.1 rfl (k := j2) (by rw [HMG.out]; exact hlt)
        have hbw : b < wr.heap.size := Nat.lt_of_lt_of_le hb hBw
        have HG := Lib.hid hG
        clear hG
        rw [hA] at e6
        obtain ⟨qq, hq⟩ := HGB.out g hmx
        have HSN := Lib.hid ((behindG_snoc hx hst).trans (roomG_one hq))
        have HMX := Lib.hid hmx
        have HQ := Lib.hid hq
        have S2 := Lib.hid (S.out.call ((Below.refl wr.heap.size wr).alloc (Nat.le_refl _) (.cells g.flat 103)))
        have bx := Blk.new wr 103 g.flat
        have HB := Lib.hid bx
        clear bx hx hmx hst hin hq
        go_upto_region 14 with (first
          | (refine wpList_guard_load rfl _ rfl (b := b) (o := off + j2 * 18) rfl HG.out ?_)
          | (refine wpList_guard_store rfl _ _ rfl (w := wr) (g := g) rfl rfl ?_))
        generalize wr.alloc _ = w2 at *
        have bx := HB.out
        clear e0 e1 e2 e3 e4 e5 e6 e7 HB S HG
        have d17 := bx.cell 17
        simp [KG.flat] at d17
        clear bx
        obtain ⟨b2, off2, x, hA2, hb2, hx2, hmx2, c0, c1, c2, c3, c4, c5, c6, c7⟩ := kps_at ((S2.out.low HIN.out).one.2.2.2.1.2 g HMX.out).2.2.2.2 rfl (k := 0) (by rw [HQ.out]; simp)
        have hq := HQ.out
        have hxq : x = qq := by rw [hq] at hx2; simpa using hx2.symm
        subst hxq
        have hbw2 : b2 < w2.heap.size := Nat.lt_of_lt_of_le hb2 S2.out.chk.leB
        rw [hq] at d17
        rw [hA2] at d17
        rw [Nat.zero_mul, Nat.add_zero] at c0 c1 c2 c3 c4 c5 c6 c7
        simp only [List.length_singleton] at d17
        have HC : Hid (∀ w1 : World, PrAt w w1 B bc k (r2 : Int) #[.int .u8 p.kind, .int .i64 p.c, .int .i64 p.v, .int .u8 p.item, .slice p.At p.tos.length p.ct, .slice p.Ae p.e.length p.ce, .slice p.Ag mg p.cg, .slice p.Al m p.cl] → Calls Try.prog 35 #[.pointer (some ⟨bc, 0, none⟩), .agg x.cells, .int .i64 ((deep : Int) + 1 + 1), .bool true] w1 (RetPr (roomP k.vars k.chans.length (deep + 1) true r2 x) bc k w1)) := Lib.hid fun w1 h => by
          have h2 := HIG.out g HMX.out x hmx2 (deep + 1) r2 true B bc w1 (by omega) HR2.out h.chk ((h.low HIN.out).guard HMX.out hmx2)
          have h3 : ((deep + 1 : Nat) : Int) = (deep : Int) + 1 := by omega
          rw [h3] at h2
          exact h2
        have HRL : Hid (∀ r3, roomP k.vars k.chans.length (deep + 1) true r2 x = some r3 → r3 ≤ r2) := Lib.hid fun r3 h => roomP_le x _ _ _ _ h
        generalize roomP k.vars k.chans.length (deep + 1) true r2 x = so2 at *
        simp only [KP.cells] at HC
        have HA := Lib.hid hA
        clear hq hx2 hmx2 hA hA2 HQ HMX
        go_wp2_with (first
          | (go_at_call 35; (with_reducible refine (HC.out _ S2.out).mono ?_); rintro e1 w3 ⟨hu, b3, z3, rfl, hb3, hor⟩
             have S3 := Lib.hid (S2.out.step hu hb3)
             clear hu hb3 S2
             rcases hor with ⟨hn, rfl⟩ | ⟨r3, hn, rfl, rfl⟩))
        · go_ret
          exact ⟨S3.out.upd, false, _, rfl, S3.out.chk.blk, .inl ⟨by rw [HX1.out]; exact behindG_take_none (HSN.out.trans hn), rfl⟩⟩
        · simp only [← HA.out]
          go_roundw
          case rel => exact ⟨j2 + 1, r3, by omega, by go_num, S3, Lib.hid (HSN.out.trans hn), Lib.hid (Nat.le_trans (HRL.out r3 hn) HR2.out)⟩
          case measure => simp [intOf]; omega
      · have hltI : ¬ (j2 : Int) < mg := by omega
        obtain rfl : mg = j2 := by omega
        have htk : p.g.take mg = p.g := List.take_of_length_le (by rw [HMG.out]; omega)
        have hst := HST.out
        rw [htk] at hst
        have HXX := Lib.hid hst
        clear htk hst
        go_wp2
        go_ret
        exact ⟨S.out.upd, true, _, rfl, S.out.chk.blk, .inr ⟨r2, by rw [HX1.out]; exact HXX.out, rfl, rfl⟩⟩
end Go.Proofs.Ytekamebpjjkifaa

/- A process of a kernel, walked in the program: what is inside it. -/
namespace Go.Proofs.Ytekamebpjjkifaa
open Go.RowKit
set_option linter.unusedSimpArgs false
set_option linter.unusedVariables false

set_option maxRecDepth 100000 in
set_option maxHeartbeats 8000000 in
theorem kProc_f (k : KK) (p : KP) (hil : ∀ x ∈ p.l, ProcOk k x) (hig : ∀ g ∈ p.g, ∀ x ∈ g.body, ProcOk k x) (deep left : Nat) (B bc : Nat) (w : World) (hd : deep < 32) (hl : left ≤ 2048) (hl0 : left ≠ 0) (hc : Chk w B bc k left) (hi : p.In w B) (hV : checkV bc p.kind ≠ Value.nilFunc) (hck : checkB k.vars k.chans.length p = true) (h11 : p.kind ≠ 11) :
    Calls Try.prog 35 #[.pointer (some ⟨bc, 0, none⟩), .agg p.cells, .int .i64 ((deep : Int) + 1), .bool false] w (RetPr (behindG k.vars k.chans.length (deep + 1) false (roomPs k.vars k.chans.length (deep + 1) false false (left - 1) p.l) p.g) bc k w) := by
  have HGB : Hid (∀ g ∈ p.g, ∃ q, g.body = [q]) := Lib.hid fun g hg => by
    obtain ⟨c, hgb⟩ := checkB_guards hck g hg
    exact guardB_body hgb
  have S0 := prAt_start (ps := p.cells) hc
  have HCK := Lib.hid (fun w1 => k_check bc p.kind w1)
  have hone := hi.one
  have HIN := Lib.hid hi
  have HLT := Lib.hid hc.lt
  have b0 := (hc.blk.call ((Below.refl w.heap.size w).alloc (Nat.le_refl _) (.cells p.cells 31)))
  have y11 : ((p.kind : Int) == 11) = false := by simp; omega
  have y1 : ¬ (left : Int) - 1 < 0 := by omega
  have y2 : ¬ (32 : Int) < (deep : Int) + 1 := by omega
  obtain ⟨F, hF, hEN, hFC⟩ := checkV_ok k ((left : Int) - 1) p B bc hV
  rw [hF] at HCK
  have HIO := Lib.hid hone
  have HF := Lib.hid hFC
  rw [hck] at HF
  clear hV hF hFC hck
  have hlen := hone.1.2.2.2.2.2
  have hlen2 := hone.1.2.2.2.2.1
  unfold lenOk at hlen hlen2
  obtain ⟨m, hm⟩ : ∃ m, p.l.length = m := ⟨_, rfl⟩
  obtain ⟨mg, hmg⟩ : ∃ m, p.g.length = m := ⟨_, rfl⟩
  have HM := Lib.hid hm
  have HMG := Lib.hid hmg
  rw [hm] at hlen
  rw [hmg] at hlen2
  have HIL := Lib.hid hil
  have HIG := Lib.hid hig
  have HN0 := Lib.hid hl0
  have hn1 : (left : Int) - 1 = ((left - 1 : Nat) : Int) := by omega
  have HN1 := Lib.hid hn1
  generalize hW0 : w.alloc (.cells p.cells 31) = W0 at *
  generalize hW1 : W0.setCell ⟨bc, 11, none⟩ (.int .i64 ((left : Int) - 1)) = W1 at *
  have S : Hid (PrAt w W1 B bc k ((left : Int) - 1) p.cells) := Lib.hid S0
  have z11 : W0.cell? ⟨bc, 11, none⟩ = some (.int .i64 left) := by have := b0.cell 11; simpa [KK.row, KP.cells] using this
  have f11 := b0.frozen 11
  have bW0 : Blk W0 w.heap.size 31 p.cells := by rw [← hW0]; exact Blk.new _ _ _
  simp only [KP.cells, hm, hmg] at hW0 S HF bW0 ⊢
  have x1 := S.out.pb
  have x2 := S.out.chk.c11
  have e0 := x1.cell 0
  have e1 := x1.cell 1
  have e2 := x1.cell 2
  have e3 := x1.cell 3
  have e4 := x1.cell 4
  have e5 := x1.cell 5
  have e6 := x1.cell 6
  have e7 := x1.cell 7
  simp at e0 e1 e2 e3 e4 e5 e6 e7
  clear x1 S0 b0 hc hi bW0 hone hm hmg hil hig hl0 hn1 h11
  go_enter Try.func35, Try.ntmps35
  go_upto_block 0 with (first
    | (go_at_call 45; (with_reducible refine (HCK.out _).mono ?_); rintro e1 w1 ⟨rfl, hb1⟩
       replace S := Lib.hid (S.out.call hb1)
       have x1 := S.out.pb
       have x2 := S.out.chk.c11
       have e0 := x1.cell 0
       have e1 := x1.cell 1
       have e2 := x1.cell 2
       have e3 := x1.cell 3
       have e4 := x1.cell 4
       have e5 := x1.cell 5
       have e6 := x1.cell 6
       have e7 := x1.cell 7
       simp at e0 e1 e2 e3 e4 e5 e6 e7
       clear x1 hb1)
    | ((with_reducible refine (HF.out _ S.out.chk (S.out.low1 HIO.out)).mono ?_); rintro e1 w1 ⟨rfl, hb1⟩
       replace S := Lib.hid (S.out.call hb1)
       have x1 := S.out.pb
       have x2 := S.out.chk.c11
       have e0 := x1.cell 0
       have e1 := x1.cell 1
       have e2 := x1.cell 2
       have e3 := x1.cell 3
       have e4 := x1.cell 4
       have e5 := x1.cell 5
       have e6 := x1.cell 6
       have e7 := x1.cell 7
       simp at e0 e1 e2 e3 e4 e5 e6 e7
       clear x1 hb1))
  clear HCK HF HIO hEN
  have S1 : Hid (PrAt w w1 B bc k ((left - 1 : Nat) : Int) #[.int .u8 p.kind, .int .i64 p.c, .int .i64 p.v, .int .u8 p.item, .slice p.At p.tos.length p.ct, .slice p.Ae p.e.length p.ce, .slice p.Ag mg p.cg, .slice p.Al m p.cl]) := Lib.hid (by rw [← HN1.out]; exact S.out)
  clear S
  go_cut [55] (fun s55 wx => ∃ r : Nat, Hid (PrAt w wx B bc k (r : Int) #[.int .u8 p.kind, .int .i64 p.c, .int .i64 p.v, .int .u8 p.item, .slice p.At p.tos.length p.ct, .slice p.Ae p.e.length p.ce, .slice p.Ag mg p.cg, .slice p.Al m p.cl]) ∧ Hid (roomPs k.vars k.chans.length (deep + 1) false false (left - 1) p.l = some r) ∧ Hid (r ≤ 2048))
  case first =>
    go_wp2_with fail
    go_loopw [55] (fun i wr => ∃ (j r : Nat), j ≤ m ∧ i = .int .i64 j ∧ Hid (PrAt w wr B bc k (r : Int) #[.int .u8 p.kind, .int .i64 p.c, .int .i64 p.v, .int .u8 p.item, .slice p.At p.tos.length p.ct, .slice p.Ae p.e.length p.ce, .slice p.Ag mg p.cg, .slice p.Al m p.cl]) ∧ Hid (roomPs k.vars k.chans.length (deep + 1) false false (left - 1) (p.l.take j) = some r) ∧ Hid (r ≤ 2048)) (fun i _ => m - (intOf i).toNat)
    case atStart => exact ⟨0, left - 1, Nat.zero_le _, rfl, S1, Lib.hid (by rw [List.take_zero, roomPs]), Lib.hid (by omega)⟩
    case round =>
      clear S1 e0 e1 e2 e3 e4 e5 e6 e7 x2
      obtain ⟨j, r, hj, rfl, S, HST, HRR⟩ := hrel
      have x1 := S.out.pb
      have hpw := x1.lt
      have e0 := x1.cell 0
      have e1 := x1.cell 1
      have e2 := x1.cell 2
      have e3 := x1.cell 3
      have e4 := x1.cell 4
      have e5 := x1.cell 5
      have e6 := x1.cell 6
      have e7 := x1.cell 7
      simp at e0 e1 e2 e3 e4 e5 e6 e7
      clear x1
      by_cases hlt : j < m
      · have hltI : (j : Int) < m := by omega
        have hin := S.out.low HIN.out
        have hBw := S.out.chk.leB
        have hst := HST.out
        obtain ⟨b, off, x, hA, hb, hx, hmx, c0, c1, c2, c3, c4, c5, c6, c7⟩ := kps_at hin.one.2.2.2.2 rfl (k := j) (by rw [HM.out]; exact hlt)
        have hbw : b < wr.heap.size := Nat.lt_of_lt_of_le hb hBw
        rw [hA] at e7
        have S2 := Lib.hid (S.out.call ((Below.refl wr.heap.size wr).alloc (Nat.le_refl _) (.cells x.cells 31)))
        have bx := Blk.new wr 31 x.cells
        simp only [KP.cells] at S2 bx
        have HB := Lib.hid bx
        clear bx
        go_upto_region 8 with fail
        generalize wr.alloc _ = w2 at *
        have x1 := S2.out.pb
        have bx := HB.out
        clear c0 c1 c2 c3 c4 c5 c6 c7 e0 e1 e2 e3 e4 e5 e6 e7 HB S
        have e0 := x1.cell 0
        have e1 := x1.cell 1
        have e2 := x1.cell 2
        have e3 := x1.cell 3
        have e4 := x1.cell 4
        have e5 := x1.cell 5
        have e6 := x1.cell 6
        have e7 := x1.cell 7
        simp at e0 e1 e2 e3 e4 e5 e6 e7
        have d0 := bx.cell 0
        have d1 := bx.cell 1
        have d2 := bx.cell 2
        have d3 := bx.cell 3
        have d4 := bx.cell 4
        have d5 := bx.cell 5
        have d6 := bx.cell 6
        have d7 := bx.cell 7
        simp at d0 d1 d2 d3 d4 d5 d6 d7
        clear x1 bx
        have HC : Hid (∀ w1 : World, PrAt w w1 B bc k (r : Int) #[.int .u8 p.kind, .int .i64 p.c, .int .i64 p.v, .int .u8 p.item, .slice p.At p.tos.length p.ct, .slice p.Ae p.e.length p.ce, .slice p.Ag mg p.cg, .slice p.Al m p.cl] → Calls Try.prog 35 #[.pointer (some ⟨bc, 0, none⟩), .agg x.cells, .int .i64 ((deep : Int) + 1 + 1), .bool false] w1 (RetPr (roomP k.vars k.chans.length (deep + 1) false r x) bc k w1)) := Lib.hid fun w1 h => by
          have h2 := HIL.out x hmx (deep + 1) r false B bc w1 (by omega) HRR.out h.chk ((h.low HIN.out).part hmx)
          have h3 : ((deep + 1 : Nat) : Int) = (deep : Int) + 1 := by omega
          rw [h3] at h2
          exact h2
        have hsn := roomPs_snoc (vs := k.vars) (nc := k.chans.length) (deep := deep + 1) (high := false) (first := false) (left := left - 1) hx hst
        have hfl := roomPs_fail (vs := k.vars) (nc := k.chans.length) (deep := deep + 1) (high := false) (first := false) (left := left - 1) hx hst
        have hb2 : (false || (false && decide (j = 0))) = false := rfl
        rw [hb2] at hsn hfl
        have HSN : Hid (roomPs k.vars k.chans.length (deep + 1) false false (left - 1) (p.l.take (j + 1)) = roomP k.vars k.chans.length (deep + 1) false r x) := Lib.hid hsn
        have HFL : Hid (roomP k.vars k.chans.length (deep + 1) false r x = none → roomPs k.vars k.chans.length (deep + 1) false false (left - 1) p.l = none) := Lib.hid hfl
        have HRL : Hid (∀ r2, roomP k.vars k.chans.length (deep + 1) false r x = some r2 → r2 ≤ r) := Lib.hid fun r2 h => roomP_le x _ _ _ _ h
        generalize roomP k.vars k.chans.length (deep + 1) false r x = so2 at *
        simp only [KP.cells] at HC
        clear hx hmx hA hst hsn hfl hin
        go_wp2_with (first
          | (go_at_call 35; (with_reducible refine (HC.out _ S2.out).mono ?_); rintro e1 w3 ⟨hu, b3, z3, rfl, hb3, hor⟩
             have S3 := Lib.hid (S2.out.step hu hb3)
             clear hu hb3 S2
             rcases hor with ⟨hn, rfl⟩ | ⟨r2, hn, rfl, rfl⟩))
        · go_ret
          exact ⟨S3.out.upd, false, _, rfl, S3.out.chk.blk, .inl ⟨by rw [HFL.out hn]; rfl, rfl⟩⟩
        · go_roundw
          case rel => exact ⟨j + 1, r2, by omega, by go_num, S3, Lib.hid (HSN.out.trans hn), Lib.hid (Nat.le_trans (HRL.out r2 hn) HRR.out)⟩
          case measure => simp [intOf]; omega
      · have hltI : ¬ (j : Int) < m := by omega
        obtain rfl : m = j := by omega
        have htk : p.l.take m = p.l := List.take_of_length_le (by rw [HM.out]; omega)
        have hst := HST.out
        rw [htk] at hst
        have HX1 := Lib.hid hst
        clear htk hst
        go_wp2_with fail
        go_meet
        exact ⟨r, S, HX1, HRR⟩
  case rest =>
    obtain ⟨r, S, HX1, HRR⟩ := hcut
    have x1 := S.out.pb
    have e0 := x1.cell 0
    have e1 := x1.cell 1
    have e2 := x1.cell 2
    have e3 := x1.cell 3
    have e4 := x1.cell 4
    have e5 := x1.cell 5
    have e6 := x1.cell 6
    have e7 := x1.cell 7
    simp at e0 e1 e2 e3 e4 e5 e6 e7
    clear x1 HIL S1 HN1 HN0 HLT
    go_wp2_with fail
    go_loopw [80] (fun i wr => ∃ (j2 r2 : Nat), j2 ≤ mg ∧ i = .int .i64 j2 ∧ Hid (PrAt w wr B bc k (r2 : Int) #[.int .u8 p.kind, .int .i64 p.c, .int .i64 p.v, .int .u8 p.item, .slice p.At p.tos.length p.ct, .slice p.Ae p.e.length p.ce, .slice p.Ag mg p.cg, .slice p.Al m p.cl]) ∧ Hid (behindG k.vars k.chans.length (deep + 1) false (some r) (p.g.take j2) = some r2) ∧ Hid (r2 ≤ 2048)) (fun i _ => mg - (intOf i).toNat)
    case atStart => exact ⟨0, r, Nat.zero_le _, rfl, S, Lib.hid behindG_nil, HRR⟩
    case round =>
      clear S e0 e1 e2 e3 e4 e5 e6 e7
      obtain ⟨j2, r2, hj2, rfl, S, HST, HR2⟩ := hrel
      have x1 := S.out.pb
      have hpw := x1.lt
      have e0 := x1.cell 0
      have e1 := x1.cell 1
      have e2 := x1.cell 2
      have e3 := x1.cell 3
      have e4 := x1.cell 4
      have e5 := x1.cell 5
      have e6 := x1.cell 6
      have e7 := x1.cell 7
      simp at e0 e1 e2 e3 e4 e5 e6 e7
      clear x1
      by_cases hlt : j2 < mg
      · have hltI : (j2 : Int) < mg := by omega
        have hin := S.out.low HIN.out
        have hBw := S.out.chk.leB
        have hst := HST.out
        obtain ⟨b, off, g, hA, hb, hx, hmx, hG⟩ := kgs_at hin.one.2.2.2.1.1 rfl (k := j2) (by rw [HMG.out]; exact hlt)
        have hbw : b < wr.heap.size := Nat.lt_of_lt_of_le hb hBw
        have HG := Lib.hid hG
        clear hG
        rw [hA] at e6
        obtain ⟨qq, hq⟩ := HGB.out g hmx
        have HSN := Lib.hid ((behindG_snoc hx hst).trans (roomG_one hq))
        have HMX := Lib.hid hmx
        have HQ := Lib.hid hq
        have S2 := Lib.hid (S.out.call ((Below.refl wr.heap.size wr).alloc (Nat.le_refl _) (.cells g.flat 103)))
        have bx := Blk.new wr 103 g.flat
        have HB := Lib.hid bx
        clear bx hx hmx hst hin hq
        go_upto_region 14 with (first
          | (refine wpList_guard_load rfl _ rfl (b := b) (o := off + j2 * 18) rfl HG.out ?_)
          | (refine wpList_guard_store rfl _ _ rfl (w := wr) (g := g) rfl rfl ?_))
        generalize wr.alloc _ = w2 at *
        have bx := HB.out
        clear e0 e1 e2 e3 e4 e5 e6 e7 HB S HG
        have d17 := bx.cell 17
        simp [KG.flat] at d17
        clear bx
        obtain ⟨b2, off2, x, hA2, hb2, hx2, hmx2, c0, c1, c2, c3, c4, c5, c6, c7⟩ := kps_at ((S2.out.low HIN.out).one.2.2.2.1.2 g HMX.out).2.2.2.2 rfl (k := 0) (by rw [HQ.out]; simp)
        have hq := HQ.out
        have hxq : x = qq := by rw [hq] at hx2; simpa using hx2.symm
        subst hxq
        have hbw2 : b2 < w2.heap.size := Nat.lt_of_lt_of_le hb2 S2.out.chk.leB
        rw [hq] at d17
        rw [hA2] at d17
        rw [Nat.zero_mul, Nat.add_zero] at c0 c1 c2 c3 c4 c5 c6 c7
        simp only [List.length_singleton] at d17
        have HC : Hid (∀ w1 : World, PrAt w w1 B bc k (r2 : Int) #[.int .u8 p.kind, .int .i64 p.c, .int .i64 p.v, .int .u8 p.item, .slice p.At p.tos.length p.ct, .slice p.Ae p.e.length p.ce, .slice p.Ag mg p.cg, .slice p.Al m p.cl] → Calls Try.prog 35 #[.pointer (some ⟨bc, 0, none⟩), .agg x.cells, .int .i64 ((deep : Int) + 1 + 1), .bool false] w1 (RetPr (roomP k.vars k.chans.length (deep + 1) false r2 x) bc k w1)) := Lib.hid fun w1 h => by
          have h2 := HIG.out g HMX.out x hmx2 (deep + 1) r2 false B bc w1 (by omega) HR2.out h.chk ((h.low HIN.out).guard HMX.out hmx2)
          have h3 : ((deep + 1 : Nat) : Int) = (deep : Int) + 1 := by omega
          rw [h3] at h2
          exact h2
        have HRL : Hid (∀ r3, roomP k.vars k.chans.length (deep + 1) false r2 x = some r3 → r3 ≤ r2) := Lib.hid fun r3 h => roomP_le x _ _ _ _ h
        generalize roomP k.vars k.chans.length (deep + 1) false r2 x = so2 at *
        simp only [KP.cells] at HC
        have HA := Lib.hid hA
        clear hq hx2 hmx2 hA hA2 HQ HMX
        go_wp2_with (first
          | (go_at_call 35; (with_reducible refine (HC.out _ S2.out).mono ?_); rintro e1 w3 ⟨hu, b3, z3, rfl, hb3, hor⟩
             have S3 := Lib.hid (S2.out.step hu hb3)
             clear hu hb3 S2
             rcases hor with ⟨hn, rfl⟩ | ⟨r3, hn, rfl, rfl⟩))
        · go_ret
          exact ⟨S3.out.upd, false, _, rfl, S3.out.chk.blk, .inl ⟨by rw [HX1.out]; exact behindG_take_none (HSN.out.trans hn), rfl⟩⟩
        · simp only [← HA.out]
          go_roundw
          case rel => exact ⟨j2 + 1, r3, by omega, by go_num, S3, Lib.hid (HSN.out.trans hn), Lib.hid (Nat.le_trans (HRL.out r3 hn) HR2.out)⟩
          case measure => simp [intOf]; omega
      · have hltI : ¬ (j2 : Int) < mg := by omega
        obtain rfl : mg = j2 := by omega
        have htk : p.g.take mg = p.g := List.take_of_length_le (by rw [HMG.out]; omega)
        have hst := HST.out
        rw [htk] at hst
        have HXX := Lib.hid hst
        clear htk hst
        go_wp2
        go_ret
        exact ⟨S.out.upd, true, _, rfl, S.out.chk.blk, .inr ⟨r2, by rw [HX1.out]; exact HXX.out, rfl, rfl⟩⟩
end Go.Proofs.Ytekamebpjjkifaa
