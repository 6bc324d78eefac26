/- Texts that belong together, joined: what each one holds is told ahead of it. -/
import Derived.Test.YtekamebpjjkifaaHK29
import Derived.Test.YtekamebpjjkifaaHK30
/- A process of a kernel, walked in the program: what is inside it. -/
namespace Go.Proofs.Ytekamebpjjkifaa
open Go.RowKit
set_option linter.unusedSimpArgs false
set_option linter.unusedVariables false

set_option maxRecDepth 100000 in
set_option maxHeartbeats 8000000 in
theorem kProc_p (k : KK) (p : KP) (hil : ∀ x ∈ p.l, ProcOk k x) (hig : ∀ g ∈ p.g, ∀ x ∈ g.body, ProcOk k x) (deep left : Nat) (B bc : Nat) (w : World) (hd : deep < 32) (hl : left ≤ 2048) (hl0 : left ≠ 0) (hc : Chk w B bc k left) (hi : p.In w B) (hV : checkV bc p.kind ≠ Value.nilFunc) (hck : checkB k.vars k.chans.length p = true) (h11 : p.kind = 11) :
    Calls Try.prog 35 #[.pointer (some ⟨bc, 0, none⟩), .agg p.cells, .int .i64 ((deep : Int) + 1), .bool false] w (RetPr (behindG k.vars k.chans.length (deep + 1) false (roomPs k.vars k.chans.length (deep + 1) false true (left - 1) p.l) p.g) bc k w) := by
  have HGB : Hid (∀ g ∈ p.g, ∃ q, g.body = [q]) := Lib.hid fun g hg => by
    obtain ⟨c, hgb⟩ := checkB_guards hck g hg
    exact guardB_body hgb
  have S0 := prAt_start (ps := p.cells) hc
  have HCK := Lib.hid (fun w1 => k_check bc p.kind w1)
  have hone := hi.one
  have HIN := Lib.hid hi
  have HLT := Lib.hid hc.lt
  have b0 := (hc.blk.call ((Below.refl w.heap.size w).alloc (Nat.le_refl _) (.cells p.cells 31)))
  have y11 : ((p.kind : Int) == 11) = true := by simp; omega
  have y1 : ¬ (left : Int) - 1 < 0 := by omega
  have y2 : ¬ (32 : Int) < (deep : Int) + 1 := by omega
  obtain ⟨F, hF, hEN, hFC⟩ := checkV_ok k ((left : Int) - 1) p B bc hV
  rw [hF] at HCK
  have HIO := Lib.hid hone
  have HF := Lib.hid hFC
  rw [hck] at HF
  clear hV hF hFC hck
  have hlen := hone.1.2.2.2.2.2
  have hlen2 := hone.1.2.2.2.2.1
  unfold lenOk at hlen hlen2
  obtain ⟨m, hm⟩ : ∃ m, p.l.length = m := ⟨_, rfl⟩
  obtain ⟨mg, hmg⟩ : ∃ m, p.g.length = m := ⟨_, rfl⟩
  have HM := Lib.hid hm
  have HMG := Lib.hid hmg
  rw [hm] at hlen
  rw [hmg] at hlen2
  have HIL := Lib.hid hil
  have HIG := Lib.hid hig
  have HN0 := Lib.hid hl0
  have hn1 : (left : Int) - 1 = ((left - 1 : Nat) : Int) := by omega
  have HN1 := Lib.hid hn1
  generalize hW0 : w.alloc (.cells p.cells 31) = W0 at *
  generalize hW1 : W0.setCell ⟨bc, 11, none⟩ (.int .i64 ((left : Int) - 1)) = W1 at *
  have S : Hid (PrAt w W1 B bc k ((left : Int) - 1) p.cells) := Lib.hid S0
  have z11 : W0.cell? ⟨bc, 11, none⟩ = some (.int .i64 left) := by have := b0.cell 11; simpa [KK.row, KP.cells] using this
  have f11 := b0.frozen 11
  have bW0 : Blk W0 w.heap.size 31 p.cells := by rw [← hW0]; exact Blk.new _ _ _
  simp only [KP.cells, hm, hmg] at hW0 S HF bW0 ⊢
  have x1 := S.out.pb
  have x2 := S.out.chk.c11
  have e0 := x1.cell 0
  have e1 := x1.cell 1
  have e2 := x1.cell 2
  have e3 := x1.cell 3
  have e4 := x1.cell 4
  have e5 := x1.cell 5
  have e6 := x1.cell 6
  have e7 := x1.cell 7
  simp at e0 e1 e2 e3 e4 e5 e6 e7
  clear x1 S0 b0 hc hi bW0 hone hm hmg hil hig hl0 hn1 h11
  go_enter Try.func35, Try.ntmps35
  go_upto_block 0 with (first
    | (go_at_call 45; (with_reducible refine (HCK.out _).mono ?_); rintro e1 w1 ⟨rfl, hb1⟩
       replace S := Lib.hid (S.out.call hb1)
       have x1 := S.out.pb
       have x2 := S.out.chk.c11
       have e0 := x1.cell 0
       have e1 := x1.cell 1
       have e2 := x1.cell 2
       have e3 := x1.cell 3
       have e4 := x1.cell 4
       have e5 := x1.cell 5
       have e6 := x1.cell 6
       have e7 := x1.cell 7
       simp at e0 e1 e2 e3 e4 e5 e6 e7
       clear x1 hb1)
    | ((with_reducible refine (HF.out _ S.out.chk (S.out.low1 HIO.out)).mono ?_); rintro e1 w1 ⟨rfl, hb1⟩
       replace S := Lib.hid (S.out.call hb1)
       have x1 := S.out.pb
       have x2 := S.out.chk.c11
       have e0 := x1.cell 0
       have e1 := x1.cell 1
       have e2 := x1.cell 2
       have e3 := x1.cell 3
       have e4 := x1.cell 4
       have e5 := x1.cell 5
       have e6 := x1.cell 6
       have e7 := x1.cell 7
       simp at e0 e1 e2 e3 e4 e5 e6 e7
       clear x1 hb1))
  clear HCK HF HIO hEN
  have S1 : Hid (PrAt w w1 B bc k ((left - 1 : Nat) : Int) #[.int .u8 p.kind, .int .i64 p.c, .int .i64 p.v, .int .u8 p.item, .slice p.At p.tos.length p.ct, .slice p.Ae p.e.length p.ce, .slice p.Ag mg p.cg, .slice p.Al m p.cl]) := Lib.hid (by rw [← HN1.out]; exact S.out)
  clear S
  go_cut [55] (fun s55 wx => ∃ r : Nat, Hid (PrAt w wx B bc k (r : Int) #[.int .u8 p.kind, .int .i64 p.c, .int .i64 p.v, .int .u8 p.item, .slice p.At p.tos.length p.ct, .slice p.Ae p.e.length p.ce, .slice p.Ag mg p.cg, .slice p.Al m p.cl]) ∧ Hid (roomPs k.vars k.chans.length (deep + 1) false true (left - 1) p.l = some r) ∧ Hid (r ≤ 2048))
  case first =>
    go_wp2_with fail
    go_loopw [55] (fun i wr => ∃ (j r : Nat), j ≤ m ∧ i = .int .i64 j ∧ Hid (PrAt w wr B bc k (r : Int) #[.int .u8 p.kind, .int .i64 p.c, .int .i64 p.v, .int .u8 p.item, .slice p.At p.tos.length p.ct, .slice p.Ae p.e.length p.ce, .slice p.Ag mg p.cg, .slice p.Al m p.cl]) ∧ Hid (roomPs k.vars k.chans.length (deep + 1) false true (left - 1) (p.l.take j) = some r) ∧ Hid (r ≤ 2048)) (fun i _ => m - (intOf i).toNat)
    case atStart => exact ⟨0, left - 1, Nat.zero_le _, rfl, S1, Lib.hid (by rw [List.take_zero, roomPs]), Lib.hid (by omega)⟩
    case round =>
      clear S1 e0 e1 e2 e3 e4 e5 e6 e7 x2
      obtain ⟨j, r, hj, rfl, S, HST, HRR⟩ := hrel
      have x1 := S.out.pb
      have hpw := x1.lt
      have e0 := x1.cell 0
      have e1 := x1.cell 1
      have e2 := x1.cell 2
      have e3 := x1.cell 3
      have e4 := x1.cell 4
      have e5 := x1.cell 5
      have e6 := x1.cell 6
      have e7 := x1.cell 7
      simp at e0 e1 e2 e3 e4 e5 e6 e7
      clear x1
      by_cases hlt : j < m
      · have hltI : (j : Int) < m := by omega
        have hin := S.out.low HIN.out
        have hBw := S.out.chk.leB
        have hst := HST.out
        obtain ⟨b, off, x, hA, hb, hx, hmx, c0, c1, c2, c3, c4, c5, c6, c7⟩ := kps_at hin.one.2.2.2.2 rfl (k := j) (by rw [HM.out]; exact hlt)
        have hbw : b < wr.heap.size := Nat.lt_of_lt_of_le hb hBw
        rw [hA] at e7
        have S2 := Lib.hid (S.out.call ((Below.refl wr.heap.size wr).alloc (Nat.le_refl _) (.cells x.cells 31)))
        have bx := Blk.new wr 31 x.cells
        simp only [KP.cells] at S2 bx
        have HB := Lib.hid bx
        clear bx
        go_upto_region 8 with fail
        generalize wr.alloc _ = w2 at *
        have x1 := S2.out.pb
        have bx := HB.out
        clear c0 c1 c2 c3 c4 c5 c6 c7 e0 e1 e2 e3 e4 e5 e6 e7 HB S
        have e0 := x1.cell 0
        have e1 := x1.cell 1
        have e2 := x1.cell 2
        have e3 := x1.cell 3
        have e4 := x1.cell 4
        have e5 := x1.cell 5
        have e6 := x1.cell 6
        have e7 := x1.cell 7
        simp at e0 e1 e2 e3 e4 e5 e6 e7
        have d0 := bx.cell 0
        have d1 := bx.cell 1
        have d2 := bx.cell 2
        have d3 := bx.cell 3
        have d4 := bx.cell 4
        have d5 := bx.cell 5
        have d6 := bx.cell 6
        have d7 := bx.cell 7
        simp at d0 d1 d2 d3 d4 d5 d6 d7
        clear x1 bx
        by_cases hj0 : j = 0
        · have yj : ((j : Int) == 0) = true := by simp; omega
          have HC : Hid (∀ w1 : World, PrAt w w1 B bc k (r : Int) #[.int .u8 p.kind, .int .i64 p.c, .int .i64 p.v, .int .u8 p.item, .slice p.At p.tos.length p.ct, .slice p.Ae p.e.length p.ce, .slice p.Ag mg p.cg, .slice p.Al m p.cl] → Calls Try.prog 35 #[.pointer (some ⟨bc, 0, none⟩), .agg x.cells, .int .i64 ((deep : Int) + 1 + 1), .bool true] w1 (RetPr (roomP k.vars k.chans.length (deep + 1) true r x) bc k w1)) := Lib.hid fun w1 h => by
            have h2 := HIL.out x hmx (deep + 1) r true B bc w1 (by omega) HRR.out h.chk ((h.low HIN.out).part hmx)
            have h3 : ((deep + 1 : Nat) : Int) = (deep : Int) + 1 := by omega
            rw [h3] at h2
            exact h2
          have hsn := roomPs_snoc (vs := k.vars) (nc := k.chans.length) (deep := deep + 1) (high := false) (first := true) (left := left - 1) hx hst
          have hfl := roomPs_fail (vs := k.vars) (nc := k.chans.length) (deep := deep + 1) (high := false) (first := true) (left := left - 1) hx hst
          have hb2 : (false || (true && decide (j = 0))) = true := by rw [decide_eq_true hj0]; rfl
          rw [hb2] at hsn hfl
          clear hj0
          have HSN : Hid (roomPs k.vars k.chans.length (deep + 1) false true (left - 1) (p.l.take (j + 1)) = roomP k.vars k.chans.length (deep + 1) true r x) := Lib.hid hsn
          have HFL : Hid (roomP k.vars k.chans.length (deep + 1) true r x = none → roomPs k.vars k.chans.length (deep + 1) false true (left - 1) p.l = none) := Lib.hid hfl
          have HRL : Hid (∀ r2, roomP k.vars k.chans.length (deep + 1) true r x = some r2 → r2 ≤ r) := Lib.hid fun r2 h => roomP_le x _ _ _ _ h
          generalize roomP k.vars k.chans.length (deep + 1) true r x = so2 at *
          simp only [KP.cells] at HC
          clear hx hmx hA hst hsn hfl hin
          go_wp2_with (first
            | (go_at_call 35; (with_reducible refine (HC.out _ S2.out).mono ?_); rintro e1 w3 ⟨hu, b3, z3, rfl, hb3, hor⟩
               have S3 := Lib.hid (S2.out.step hu hb3)
               clear hu hb3 S2
               rcases hor with ⟨hn, rfl⟩ | ⟨r2, hn, rfl, rfl⟩))
          · go_ret
            exact ⟨S3.out.upd, false, _, rfl, S3.out.chk.blk, .inl ⟨by rw [HFL.out hn]; rfl, rfl⟩⟩
          · go_roundw
            case rel => exact ⟨j + 1, r2, by omega, by go_num, S3, Lib.hid (HSN.out.trans hn), Lib.hid (Nat.le_trans (HRL.out r2 hn) HRR.out)⟩
            case measure => simp [intOf]; omega
        · have yj : ((j : Int) == 0) = false := by simp; omega
          have HC : Hid (∀ w1 : World, PrAt w w1 B bc k (r : Int) #[.int .u8 p.kind, .int .i64 p.c, .int .i64 p.v, .int .u8 p.item, .slice p.At p.tos.length p.ct, .slice p.Ae p.e.length p.ce, .slice p.Ag mg p.cg, .slice p.Al m p.cl] → Calls Try.prog 35 #[.pointer (some ⟨bc, 0, none⟩), .agg x.cells, .int .i64 ((deep : Int) + 1 + 1), .bool false] w1 (RetPr (roomP k.vars k.chans.length (deep + 1) false r x) bc k w1)) := Lib.hid fun w1 h => by
            have h2 := HIL.out x hmx (deep + 1) r false B bc w1 (by omega) HRR.out h.chk ((h.low HIN.out).part hmx)
            have h3 : ((deep + 1 : Nat) : Int) = (deep : Int) + 1 := by omega
            rw [h3] at h2
            exact h2
          have hsn := roomPs_snoc (vs := k.vars) (nc := k.chans.length) (deep := deep + 1) (high := false) (first := true) (left := left - 1) hx hst
          have hfl := roomPs_fail (vs := k.vars) (nc := k.chans.length) (deep := deep + 1) (high := false) (first := true) (left := left - 1) hx hst
          have hb2 : (false || (true && decide (j = 0))) = false := by rw [decide_eq_false hj0]; rfl
          rw [hb2] at hsn hfl
          clear hj0
          have HSN : Hid (roomPs k.vars k.chans.length (deep + 1) false true (left - 1) (p.l.take (j + 1)) = roomP k.vars k.chans.length (deep + 1) false r x) := Lib.hid hsn
          have HFL : Hid (roomP k.vars k.chans.length (deep + 1) false r x = none → roomPs k.vars k.chans.length (deep + 1) false true (left - 1) p.l = none) := Lib.hid hfl
          have HRL : Hid (∀ r2, roomP k.vars k.chans.length (deep + 1) false r x = some r2 → r2 ≤ r) := Lib.hid fun r2 h => roomP_le x _ _ _ _ h
          generalize roomP k.vars k.chans.length (deep + 1) false r x = so2 at *
          simp only [KP.cells] at HC
          clear hx hmx hA hst hsn hfl hin
          go_wp2_with (first
            | (go_at_call 35; (with_reducible refine (HC.out _ S2.out).mono ?_); rintro e1 w3 ⟨hu, b3, z3, rfl, hb3, hor⟩
               have S3 := Lib.hid (S2.out.step hu hb3)
               clear hu hb3 S2
               rcases hor with ⟨hn, rfl⟩ | ⟨r2, hn, rfl, rfl⟩))
          · go_ret
            exact ⟨S3.out.upd, false, _, rfl, S3.out.chk.blk, .inl ⟨by rw [HFL.out hn]; rfl, rfl⟩⟩
          · go_roundw
            case rel => exact ⟨j + 1, r2, by omega, by go_num, S3, Lib.hid (HSN.out.trans hn), Lib.hid (Nat.le_trans (HRL.out r2 hn) HRR.out)⟩
            case measure => simp [intOf]; omega
      · have hltI : ¬ (j : Int) < m := by omega
        obtain rfl : m = j := by omega
        have htk : p.l.take m = p.l := List.take_of_length_le (by rw [HM.out]; omega)
        have hst := HST.out
        rw [htk] at hst
        have HX1 := Lib.hid hst
        clear htk hst
        go_wp2_with fail
        go_meet
        exact ⟨r, S, HX1, HRR⟩
  case rest =>
    obtain ⟨r, S, HX1, HRR⟩ := hcut
    have x1 := S.out.pb
    have e0 := x1.cell 0
    have e1 := x1.cell 1
    have e2 := x1.cell 2
    have e3 := x1.cell 3
    have e4 := x1.cell 4
    have e5 := x1.cell 5
    have e6 := x1.cell 6
    have e7 := x1.cell 7
    simp at e0 e1 e2 e3 e4 e5 e6 e7
    clear x1 HIL S1 HN1 HN0 HLT
    go_wp2_with fail
    go_loopw [80] (fun i wr => ∃ (j2 r2 : Nat), j2 ≤ mg ∧ i = .int .i64 j2 ∧ Hid (PrAt w wr B bc k (r2 : Int) #[.int .u8 p.kind, .int .i64 p.c, .int .i64 p.v, .int .u8 p.item, .slice p.At p.tos.length p.ct, .slice p.Ae p.e.length p.ce, .slice p.Ag mg p.cg, .slice p.Al m p.cl]) ∧ Hid (behindG k.vars k.chans.length (deep + 1) false (some r) (p.g.take j2) = some r2) ∧ Hid (r2 ≤ 2048)) (fun i _ => mg - (intOf i).toNat)
    case atStart => exact ⟨0, r, Nat.zero_le _, rfl, S, Lib.hid behindG_nil, HRR⟩
    case round =>
      clear S e0 e1 e2 e3 e4 e5 e6 e7
      obtain ⟨j2, r2, hj2, rfl, S, HST, HR2⟩ := hrel
      have x1 := S.out.pb
      have hpw := x1.lt
      have e0 := x1.cell 0
      have e1 := x1.cell 1
      have e2 := x1.cell 2
      have e3 := x1.cell 3
      have e4 := x1.cell 4
      have e5 := x1.cell 5
      have e6 := x1.cell 6
      have e7 := x1.cell 7
      simp at e0 e1 e2 e3 e4 e5 e6 e7
      clear x1
      by_cases hlt : j2 < mg
      · have hltI : (j2 : Int) < mg := by omega
        have hin := S.out.low HIN.out
        have hBw := S.out.chk.leB
        have hst := HST.out
        obtain ⟨b, off, g, hA, hb, hx, hmx, hG⟩ := kgs_at hin.one.2.2.2.1.1 rfl (k := j2) (by rw [HMG.out]; exact hlt)
        have hbw : b < wr.heap.size := Nat.lt_of_lt_of_le hb hBw
        have HG := Lib.hid hG
        clear hG
        rw [hA] at e6
        obtain ⟨qq, hq⟩ := HGB.out g hmx
        have HSN := Lib.hid ((behindG_snoc hx hst).trans (roomG_one hq))
        have HMX := Lib.hid hmx
        have HQ := Lib.hid hq
        have S2 := Lib.hid (S.out.call ((Below.refl wr.heap.size wr).alloc (Nat.le_refl _) (.cells g.flat 103)))
        have bx := Blk.new wr 103 g.flat
        have HB := Lib.hid bx
        clear bx hx hmx hst hin hq
        go_upto_region 14 with (first
          | (refine wpList_guard_load rfl _ rfl (b := b) (o := off + j2 * 18) rfl HG.out ?_)
          | (refine wpList_guard_store rfl _ _ rfl (w := wr) (g := g) rfl rfl ?_))
        generalize wr.alloc _ = w2 at *
        have bx := HB.out
        clear e0 e1 e2 e3 e4 e5 e6 e7 HB S HG
        have d17 := bx.cell 17
        simp [KG.flat] at d17
        clear bx
        obtain ⟨b2, off2, x, hA2, hb2, hx2, hmx2, c0, c1, c2, c3, c4, c5, c6, c7⟩ := kps_at ((S2.out.low HIN.out).one.2.2.2.1.2 g HMX.out).2.2.2.2 rfl (k := 0) (by rw [HQ.out]; simp)
        have hq := HQ.out
        have hxq : x = qq := by rw [hq] at hx2; simpa using hx2.symm
        subst hxq
        have hbw2 : b2 < w2.heap.size := Nat.lt_of_lt_of_le hb2 S2.out.chk.leB
        rw [hq] at d17
        rw [hA2] at d17
        rw [Nat.zero_mul, Nat.add_zero] at c0 c1 c2 c3 c4 c5 c6 c7
        simp only [List.length_singleton] at d17
        have HC : Hid (∀ w1 : World, PrAt w w1 B bc k (r2 : Int) #[.int .u8 p.kind, .int .i64 p.c, .int .i64 p.v, .int .u8 p.item, .slice p.At p.tos.length p.ct, .slice p.Ae p.e.length p.ce, .slice p.Ag mg p.cg, .slice p.Al m p.cl] → Calls Try.prog 35 #[.pointer (some ⟨bc, 0, none⟩), .agg x.cells, .int .i64 ((deep : Int) + 1 + 1), .bool false] w1 (RetPr (roomP k.vars k.chans.length (deep + 1) false r2 x) bc k w1)) := Lib.hid fun w1 h => by
          have h2 := HIG.out g HMX.out x hmx2 (deep + 1) r2 false B bc w1 (by omega) HR2.out h.chk ((h.low HIN.out).guard HMX.out hmx2)
          have h3 : ((deep + 1 : Nat) : Int) = (deep : Int) + 1 := by omega
          rw [h3] at h2
          exact h2
        have HRL : Hid (∀ r3, roomP k.vars k.chans.length (deep + 1) false r2 x = some r3 → r3 ≤ r2) := Lib.hid fun r3 h => roomP_le x _ _ _ _ h
        generalize roomP k.vars k.chans.length (deep + 1) false r2 x = so2 at *
        simp only [KP.cells] at HC
        have HA := Lib.hid hA
        clear hq hx2 hmx2 hA hA2 HQ HMX
        go_wp2_with (first
          | (go_at_call 35; (with_reducible refine (HC.out _ S2.out).mono ?_); rintro e1 w3 ⟨hu, b3, z3, rfl, hb3, hor⟩
             have S3 := Lib.hid (S2.out.step hu hb3)
             clear hu hb3 S2
             rcases hor with ⟨hn, rfl⟩ | ⟨r3, hn, rfl, rfl⟩))
        · go_ret
          exact ⟨S3.out.upd, false, _, rfl, S3.out.chk.blk, .inl ⟨by rw [HX1.out]; exact behindG_take_none (HSN.out.trans hn), rfl⟩⟩
        · simp only [← HA.out]
          go_roundw
          case rel => exact ⟨j2 + 1, r3, by omega, by go_num, S3, Lib.hid (HSN.out.trans hn), Lib.hid (Nat.le_trans (HRL.out r3 hn) HR2.out)⟩
          case measure => simp [intOf]; omega
      · have hltI : ¬ (j2 : Int) < mg := by omega
        obtain rfl : mg = j2 := by omega
        have htk : p.g.take mg = p.g := List.take_of_length_le (by rw [HMG.out]; omega)
        have hst := HST.out
        rw [htk] at hst
        have HXX := Lib.hid hst
        clear htk hst
        go_wp2
        go_ret
        exact ⟨S.out.upd, true, _, rfl, S.out.chk.blk, .inr ⟨r2, by rw [HX1.out]; exact HXX.out, rfl, rfl⟩⟩
end Go.Proofs.Ytekamebpjjkifaa

/- A process of a kernel, walked in the program: whole. slices.Contains at []int. -/
namespace Go.Proofs.Ytekamebpjjkifaa
open Go.RowKit
set_option linter.unusedSimpArgs false
set_option linter.unusedVariables false

theorem retPr_eq {R R' : Option Nat} {bc : Nat} {k : KK} {w : World} {f : Nat} {args : Array Value} (h : R = R') (hc : Calls Try.prog f args w (RetPr R bc k w)) : Calls Try.prog f args w (RetPr R' bc k w) := h ▸ hc
theorem kProc (k : KK) : ∀ p, ProcOk k p := by
  intro p
  induction p using KP.ind with
  | h p ih1 ih2 =>
    intro deep left high B bc w hd hl hc hi
    have he := roomP_eq (vs := k.vars) (nc := k.chans.length) deep high left p
    by_cases h0 : left = 0
    · exact retPr_eq (by rw [he]; simp [h0]) (kProc_0 k p deep left high B bc w hd hl hc hi h0)
    by_cases h32 : deep = 32
    · exact retPr_eq (by rw [he]; simp [h32]) (kProc_32 k p deep left high B bc w hd hl hc hi h0 h32)
    have hd2 : deep < 32 := by omega
    by_cases hV : checkV bc p.kind = Value.nilFunc
    · exact retPr_eq (by rw [he, checkV_nil hV]; simp) (kProc_nil k p deep left high B bc w hd hl hc hi h0 hd2 hV)
    cases hck : checkB k.vars k.chans.length p with
    | false => exact retPr_eq (by rw [he, hck]; simp) (kProc_no k p deep left high B bc w hd hl hc hi h0 hd2 hV hck)
    | true =>
      have hgo : ∀ b1 b2 : Bool, high = b1 → (p.kind == 11) = b2 → (b1 && b2) = false → behindG k.vars k.chans.length (deep + 1) b1 (roomPs k.vars k.chans.length (deep + 1) b1 b2 (left - 1) p.l) p.g = roomP k.vars k.chans.length deep high left p := by
        intro b1 b2 e1 e2 e3
        rw [he, hck, e1, e2, e3, decide_eq_false (by omega), decide_eq_false h0]
        simp only [behindG]
        rfl
      cases high with
      | true =>
        by_cases h11 : p.kind = 11
        · exact retPr_eq (by rw [he]; simp [h11]) (kProc_high k p deep left true B bc w hd hl hc hi h0 hd2 hV hck rfl h11)
        · exact retPr_eq (hgo true false rfl (by simp [h11]) rfl) (kProc_t k p ih2 ih1 deep left B bc w hd2 hl h0 hc hi hV hck h11)
      | false =>
        by_cases h11 : p.kind = 11
        · exact retPr_eq (hgo false true rfl (by simp [h11]) rfl) (kProc_p k p ih2 ih1 deep left B bc w hd2 hl h0 hc hi hV hck h11)
        · exact retPr_eq (hgo false false rfl (by simp [h11]) rfl) (kProc_f k p ih2 ih1 deep left B bc w hd2 hl h0 hc hi hV hck h11)

/-- What slices.Index answers, at ints. -/
def RetIx (l : List Int) (n : Nat) (x : Int) (w : World) (e : Ending) (w' : World) : Prop :=
  w' = w ∧ ∃ z : Int, e = .returned (.int .i64 z) ∧ (0 ≤ z ∧ (∃ s, s < n ∧ l[s]? = some x) ∨ z < 0 ∧ ∀ s y, s < n → l[s]? = some y → y ≠ x)
set_option maxRecDepth 100000 in
set_option maxHeartbeats 4000000 in
theorem kIndexI (l : List Int) (n : Nat) (b off c : Nat) (x : Int) (w : World) (hn : n ≤ l.length) (hlen : n ≤ 140737488355328) (hc : ∀ j y, l[j]? = some y → w.cell? ⟨b, off + j, none⟩ = some (.int .i64 y)) :
    Calls Try.prog 44 #[.slice (some ⟨b, off, none⟩) n c, .int .i64 x] w (RetIx l n x w) := by
  have HC := Lib.hid hc
  have HN := Lib.hid hn
  clear hc hn
  go_enter Try.func44, Try.ntmps44
  go_wp2_with fail
  go_loopw [8] (fun i wr => ∃ j : Nat, j ≤ n ∧ i = .int .i64 j ∧ Hid (∀ s y, s < j → l[s]? = some y → y ≠ x) ∧ wr = w) (fun i _ => n - (intOf i).toNat)
  case atStart => exact ⟨0, Nat.zero_le _, rfl, Lib.hid (fun s y h => absurd h (by omega)), rfl⟩
  case round =>
    obtain ⟨j, hj, rfl, HNE, rfl⟩ := hrel
    by_cases hlt : j < n
    · have hltI : (j : Int) < n := by omega
      obtain ⟨y, hy⟩ : ∃ y, l[j]? = some y := ⟨_, List.getElem?_eq_getElem (by have := HN.out; omega)⟩
      have c0 := HC.out j y hy
      by_cases hyx : x = y
      · have hb1 : (x == y) = true := by simp [hyx]
        have HY : Hid (l[j]? = some x) := Lib.hid (by rw [hy, hyx])
        clear hy hyx
        go_wp2
        go_ret
        exact ⟨rfl, _, rfl, .inl ⟨by omega, j, hlt, HY.out⟩⟩
      · have hb1 : (x == y) = false := by simp [hyx]
        have HZ2 : Hid (∀ s y, s < j + 1 → l[s]? = some y → y ≠ x) := Lib.hid (by
          intro s z hs hz
          by_cases hst : s = j
          · subst hst
            rw [hy] at hz
            injection hz with hz
            rw [← hz]; exact fun h => hyx h.symm
          · exact HNE.out s z (by omega) hz)
        clear hy hyx
        go_wp2
        go_roundw
        case rel => exact ⟨j + 1, by omega, by go_num, HZ2, trivial⟩
        case measure => simp [intOf]; omega
    · have hltI : ¬ (j : Int) < n := by omega
      obtain rfl : n = j := by omega
      go_wp2
      go_ret
      exact ⟨rfl, _, rfl, .inr ⟨by omega, HNE.out⟩⟩
/-- What slices.Contains answers, at ints. -/
def RetHas (l : List Int) (n : Nat) (x : Int) (w : World) (e : Ending) (w' : World) : Prop :=
  w' = w ∧ ∃ r : Bool, e = .returned (.bool r) ∧ (r = true ∧ (∃ s, s < n ∧ l[s]? = some x) ∨ r = false ∧ ∀ s y, s < n → l[s]? = some y → y ≠ x)
set_option maxRecDepth 100000 in
set_option maxHeartbeats 4000000 in
theorem kContainsI (l : List Int) (n : Nat) (b off c : Nat) (x : Int) (w : World) (hn : n ≤ l.length) (hlen : n ≤ 140737488355328) (hc : ∀ j y, l[j]? = some y → w.cell? ⟨b, off + j, none⟩ = some (.int .i64 y)) :
    Calls Try.prog 33 #[.slice (some ⟨b, off, none⟩) n c, .int .i64 x] w (RetHas l n x w) := by
  have HI := Lib.hid (kIndexI l n b off c x w hn hlen hc)
  clear hc hn
  go_enter Try.func33, Try.ntmps33
  go_wp2_with (go_at_call 44; (with_reducible refine (HI.out).mono ?_); rintro e w1 ⟨rfl, z, rfl, hz⟩; have HZ := Lib.hid hz; clear hz)
  go_ret
  refine ⟨rfl, _, rfl, ?_⟩
  rcases HZ.out with ⟨h1, h2⟩ | ⟨h1, h2⟩
  · exact .inl ⟨by simpa using h1, h2⟩
  · exact .inr ⟨by simpa using h1, h2⟩
end Go.Proofs.Ytekamebpjjkifaa

/- How many processes are left, in the document: left, its loops. -/
namespace Go.Proofs.Ytekamebpjjkifaa
open Go.RowKit
set_option linter.unusedSimpArgs false
set_option linter.unusedVariables false

set_option maxRecDepth 100000 in
set_option maxHeartbeats 8000000 in
theorem rLeft_t (k : KK) (ok : KOk k) (p : KP) (hil : ∀ x ∈ p.l, LeftOk k x) (hig : ∀ g ∈ p.g, ∀ x ∈ g.body, LeftOk k x) (deep n : Nat) (B : Nat) (w : World) (hd : deep < 32) (hn : n ≤ 2048) (hn0 : n ≠ 0) (hk : k.In w B) (hi : p.In w B) (hB : B ≤ w.heap.size)
    (hl : looksB p = true) (ht : typedB k.vars k.chans.length p = true) (h11 : p.kind ≠ 11) :
    Calls Try.prog 29 #[.agg (innerV k deep true), .agg p.cells, .int .i64 n] w (RetV (.int .i64 (roomZ (behindG k.vars k.chans.length (deep + 1) true (roomPs k.vars k.chans.length (deep + 1) true false (n - 1) p.l) p.g))) w) := by
  obtain ⟨W0, hW0⟩ : ∃ W, (w.alloc (.cells (innerV k deep true) 86)).alloc (.cells p.cells 31) = W := ⟨_, rfl⟩
  obtain ⟨l1, l2, l3⟩ := lay2 w (innerV k deep true) p.cells 86 31
  rw [hW0] at l1 l2 l3
  have HW : Hid (∀ w1 : World, Below w.heap.size w w1 → k.In w1 B ∧ p.In w1 B ∧ B ≤ w1.heap.size) := Lib.hid fun w1 hb => ⟨hk.below (hb.mono hB), hi.below (hb.mono hB), Nat.le_trans hB hb.size⟩
  have hone := hi.one.1
  have hlen := hone.2.2.2.2.2
  have hlen2 := hone.2.2.2.2.1
  unfold lenOk at hlen hlen2
  obtain ⟨m, hm⟩ : ∃ m, p.l.length = m := ⟨_, rfl⟩
  obtain ⟨mg, hmg⟩ : ∃ m, p.g.length = m := ⟨_, rfl⟩
  have HM := Lib.hid hm
  have HMG := Lib.hid hmg
  rw [hm] at hlen
  rw [hmg] at hlen2
  have S : Hid (LfAt w W0 (innerV k deep true) p.cells) := Lib.hid ⟨l1, l2, l3⟩
  have HL := Lib.hid (fun w1 => rLooks p w1)
  have HT := Lib.hid (fun (w1 : World) (hb : Below w.heap.size w w1) => rTyped k p hl B w1 (HW.out w1 hb).1 ok (HW.out w1 hb).2.1.one (HW.out w1 hb).2.2)
  have y : ((deep : Int) == 32) = false := by simp; omega
  have y0 : ((n : Int) == 0) = false := by simp; omega
  have y11 : ((p.kind : Int) == 11) = false := by simp; omega
  rw [hl] at HL
  rw [ht] at HT
  have HIL := Lib.hid hil
  have HIG := Lib.hid hig
  have HGB : Hid (∀ g ∈ p.g, ∃ q, g.body = [q]) := Lib.hid fun g hg => by
    have hc : checkB k.vars k.chans.length p = true := by rw [checkB_ref, hl, ht]; rfl
    obtain ⟨c, hgb⟩ := checkB_guards hc g hg
    exact guardB_body hgb
  have hn1 : (n : Int) - 1 = ((n - 1 : Nat) : Int) := by omega
  have HN1 := Lib.hid hn1
  simp only [innerV, KP.cells, KK.flat, hm, hmg] at l2 l3 hW0 S HL HT ⊢
  have q0 := l2.cell 0
  have q1 := l2.cell 1
  have q2 := l2.cell 2
  have q3 := l2.cell 3
  have q4 := l2.cell 4
  have q5 := l2.cell 5
  have q6 := l2.cell 6
  have q7 := l2.cell 7
  have q8 := l2.cell 8
  have q9 := l2.cell 9
  have q10 := l2.cell 10
  have q11 := l2.cell 11
  have q12 := l2.cell 12
  simp at q0 q1 q2 q3 q4 q5 q6 q7 q8 q9 q10 q11 q12
  have e0 := l3.cell 0
  have e1 := l3.cell 1
  have e2 := l3.cell 2
  have e3 := l3.cell 3
  have e4 := l3.cell 4
  have e5 := l3.cell 5
  have e6 := l3.cell 6
  have e7 := l3.cell 7
  simp at e0 e1 e2 e3 e4 e5 e6 e7
  clear l1 l2 l3 hk hi hm hmg hone hl ht h11 hil hig hn1
  go_enter Try.func29, Try.ntmps29
  go_upto_block 0 with (first
    | (go_at_call 40; (with_reducible refine (HL.out _).mono ?_); rintro e1 w1 ⟨rfl, hb1⟩
       replace S := Lib.hid (S.out.call hb1)
       have x1 := S.out.kb
       have x2 := S.out.pb
       have q0 := x1.cell 0
       have q1 := x1.cell 1
       have q2 := x1.cell 2
       have q3 := x1.cell 3
       have q4 := x1.cell 4
       have q5 := x1.cell 5
       have q6 := x1.cell 6
       have q7 := x1.cell 7
       have q8 := x1.cell 8
       have q9 := x1.cell 9
       have q10 := x1.cell 10
       have q11 := x1.cell 11
       have q12 := x1.cell 12
       simp at q0 q1 q2 q3 q4 q5 q6 q7 q8 q9 q10 q11 q12
       have e0 := x2.cell 0
       have e1 := x2.cell 1
       have e2 := x2.cell 2
       have e3 := x2.cell 3
       have e4 := x2.cell 4
       have e5 := x2.cell 5
       have e6 := x2.cell 6
       have e7 := x2.cell 7
       simp at e0 e1 e2 e3 e4 e5 e6 e7
       clear x1 x2 hb1)
    | (go_at_call 41; (with_reducible refine (HT.out _ S.out.bel).mono ?_); rintro e1 w1 ⟨rfl, hb1⟩
       replace S := Lib.hid (S.out.call hb1)
       have x1 := S.out.kb
       have x2 := S.out.pb
       have q0 := x1.cell 0
       have q1 := x1.cell 1
       have q2 := x1.cell 2
       have q3 := x1.cell 3
       have q4 := x1.cell 4
       have q5 := x1.cell 5
       have q6 := x1.cell 6
       have q7 := x1.cell 7
       have q8 := x1.cell 8
       have q9 := x1.cell 9
       have q10 := x1.cell 10
       have q11 := x1.cell 11
       have q12 := x1.cell 12
       simp at q0 q1 q2 q3 q4 q5 q6 q7 q8 q9 q10 q11 q12
       have e0 := x2.cell 0
       have e1 := x2.cell 1
       have e2 := x2.cell 2
       have e3 := x2.cell 3
       have e4 := x2.cell 4
       have e5 := x2.cell 5
       have e6 := x2.cell 6
       have e7 := x2.cell 7
       simp at e0 e1 e2 e3 e4 e5 e6 e7
       clear x1 x2 hb1))
  clear HL HT
  go_cut [2] (fun s2 wx => s2 = .int .i64 (roomZ (roomPs k.vars k.chans.length (deep + 1) true false (n - 1) p.l)) ∧ Hid (LfAt w wx #[.slice k.Av k.vars.length k.cv, .slice k.Ac k.chans.length k.cc, .int .u8 k.root.kind, .int .i64 k.root.c, .int .i64 k.root.v, .int .u8 k.root.item, .slice k.root.At k.root.tos.length k.root.ct, .slice k.root.Ae k.root.e.length k.root.ce, .slice k.root.Ag k.root.g.length k.root.cg, .slice k.root.Al k.root.l.length k.root.cl, .slice k.Ap k.procs.length k.cp, .int .i64 deep, .bool true] #[.int .u8 p.kind, .int .i64 p.c, .int .i64 p.v, .int .u8 p.item, .slice p.At p.tos.length p.ct, .slice p.Ae p.e.length p.ce, .slice p.Ag mg p.cg, .slice p.Al m p.cl]))
  case first =>
    go_wp2_with fail
    go_loopw [2, 7] (fun v i wr => ∃ (j : Nat) (so : Option Nat), j ≤ m ∧ i = .int .i64 j ∧ v = .int .i64 (roomZ so) ∧ Hid (LfAt w wr #[.slice k.Av k.vars.length k.cv, .slice k.Ac k.chans.length k.cc, .int .u8 k.root.kind, .int .i64 k.root.c, .int .i64 k.root.v, .int .u8 k.root.item, .slice k.root.At k.root.tos.length k.root.ct, .slice k.root.Ae k.root.e.length k.root.ce, .slice k.root.Ag k.root.g.length k.root.cg, .slice k.root.Al k.root.l.length k.root.cl, .slice k.Ap k.procs.length k.cp, .int .i64 deep, .bool true] #[.int .u8 p.kind, .int .i64 p.c, .int .i64 p.v, .int .u8 p.item, .slice p.At p.tos.length p.ct, .slice p.Ae p.e.length p.ce, .slice p.Ag mg p.cg, .slice p.Al m p.cl]) ∧ Hid (roomPs k.vars k.chans.length (deep + 1) true false (n - 1) (p.l.take j) = so) ∧ Hid (∀ r, so = some r → r ≤ 2048)) (fun _ i _ => m - (intOf i).toNat)
    case atStart => exact ⟨0, some (n - 1), Nat.zero_le _, rfl, by rw [HN1.out]; rfl, S, Lib.hid (by rw [List.take_zero, roomPs]), Lib.hid (fun r h => by injection h with h; omega)⟩
    case round =>
      clear S q0 q1 q2 q3 q4 q5 q6 q7 q8 q9 q10 q11 q12 e0 e1 e2 e3 e4 e5 e6 e7
      obtain ⟨j, so, hj, rfl, rfl, S, HST, HRR⟩ := hrel
      have x1 := S.out.kb
      have x2 := S.out.pb
      have hkw := x1.lt
      have hpw := x2.lt
      have q0 := x1.cell 0
      have q1 := x1.cell 1
      have q2 := x1.cell 2
      have q3 := x1.cell 3
      have q4 := x1.cell 4
      have q5 := x1.cell 5
      have q6 := x1.cell 6
      have q7 := x1.cell 7
      have q8 := x1.cell 8
      have q9 := x1.cell 9
      have q10 := x1.cell 10
      have q11 := x1.cell 11
      have q12 := x1.cell 12
      simp at q0 q1 q2 q3 q4 q5 q6 q7 q8 q9 q10 q11 q12
      have e0 := x2.cell 0
      have e1 := x2.cell 1
      have e2 := x2.cell 2
      have e3 := x2.cell 3
      have e4 := x2.cell 4
      have e5 := x2.cell 5
      have e6 := x2.cell 6
      have e7 := x2.cell 7
      simp at e0 e1 e2 e3 e4 e5 e6 e7
      clear x1 x2
      by_cases hlt : j < m
      · have hltI : (j : Int) < m := by omega
        cases so with
        | none =>
          have HXX := Lib.hid (roomPs_take_none HST.out)
          simp only [roomZ]
          go_wp2_with fail
          go_meet
          exact ⟨by rw [HXX.out]; rfl, S⟩
        | some r =>
          have hr2 := HRR.out r rfl
          have hst := HST.out
          have hin := HW.out wr S.out.bel
          obtain ⟨b, off, x, hA, hb, hx, hmx, c0, c1, c2, c3, c4, c5, c6, c7⟩ := kps_at hin.2.1.one.2.2.2.2 rfl (k := j) (by rw [HM.out]; exact hlt)
          have hbw : b < wr.heap.size := Nat.lt_of_lt_of_le hb hin.2.2
          rw [hA] at e7
          simp only [roomZ]
          have HC : Hid (∀ w1 : World, Below wr.heap.size wr w1 → Calls Try.prog 29 #[.agg (innerV k ((deep : Int) + 1) true), .agg x.cells, .int .i64 r] w1 (RetV (.int .i64 (roomZ (roomP k.vars k.chans.length (deep + 1) true r x))) w1)) := Lib.hid fun w1 h => by
            have h1 := HW.out w1 (S.out.bel.trans (h.mono S.out.bel.size))
            have h2 := HIL.out x hmx (deep + 1) r true B w1 (by omega) hr2 h1.1 (h1.2.1.part hmx) h1.2.2
            have h3 : ((deep + 1 : Nat) : Int) = (deep : Int) + 1 := by omega
            rw [h3] at h2
            exact h2
          have hsn := roomPs_snoc (vs := k.vars) (nc := k.chans.length) (deep := deep + 1) (high := true) (first := false) (left := n - 1) hx hst
          have hb2 : (true || (false && decide (j = 0))) = true := rfl
          rw [hb2] at hsn
          have HSN : Hid (roomPs k.vars k.chans.length (deep + 1) true false (n - 1) (p.l.take (j + 1)) = roomP k.vars k.chans.length (deep + 1) true r x) := Lib.hid hsn
          have HRL : Hid (∀ r2, roomP k.vars k.chans.length (deep + 1) true r x = some r2 → r2 ≤ r) := Lib.hid fun r2 h => roomP_le x _ _ _ _ h
          generalize roomP k.vars k.chans.length (deep + 1) true r x = so2 at *
          simp only [innerV, KP.cells] at HC
          clear hx hmx hA hst hsn hin
          go_upto_region 7 with fail
          obtain ⟨ι, F, i0', h0', hFb, hcl⟩ := fam_below wr
          have Fq0 := fun i => ((hFb i).cell (p := ⟨w.heap.size, 0, none⟩) hkw).trans q0
          have Fq1 := fun i => ((hFb i).cell (p := ⟨w.heap.size, 1, none⟩) hkw).trans q1
          have Fq2 := fun i => ((hFb i).cell (p := ⟨w.heap.size, 2, none⟩) hkw).trans q2
          have Fq3 := fun i => ((hFb i).cell (p := ⟨w.heap.size, 3, none⟩) hkw).trans q3
          have Fq4 := fun i => ((hFb i).cell (p := ⟨w.heap.size, 4, none⟩) hkw).trans q4
          have Fq5 := fun i => ((hFb i).cell (p := ⟨w.heap.size, 5, none⟩) hkw).trans q5
          have Fq6 := fun i => ((hFb i).cell (p := ⟨w.heap.size, 6, none⟩) hkw).trans q6
          have Fq7 := fun i => ((hFb i).cell (p := ⟨w.heap.size, 7, none⟩) hkw).trans q7
          have Fq8 := fun i => ((hFb i).cell (p := ⟨w.heap.size, 8, none⟩) hkw).trans q8
          have Fq9 := fun i => ((hFb i).cell (p := ⟨w.heap.size, 9, none⟩) hkw).trans q9
          have Fq10 := fun i => ((hFb i).cell (p := ⟨w.heap.size, 10, none⟩) hkw).trans q10
          have Fq11 := fun i => ((hFb i).cell (p := ⟨w.heap.size, 11, none⟩) hkw).trans q11
          have Fq12 := fun i => ((hFb i).cell (p := ⟨w.heap.size, 12, none⟩) hkw).trans q12
          have Fe0 := fun i => ((hFb i).cell (p := ⟨w.heap.size + 1, 0, none⟩) hpw).trans e0
          have Fe7 := fun i => ((hFb i).cell (p := ⟨w.heap.size + 1, 7, none⟩) hpw).trans e7
          have Fc0 := fun i => ((hFb i).cell (p := ⟨b, off + j * 8, none⟩) hbw).trans c0
          have Fc1 := fun i => ((hFb i).cell (p := ⟨b, off + j * 8 + 1, none⟩) hbw).trans c1
          have Fc2 := fun i => ((hFb i).cell (p := ⟨b, off + j * 8 + 2, none⟩) hbw).trans c2
          have Fc3 := fun i => ((hFb i).cell (p := ⟨b, off + j * 8 + 3, none⟩) hbw).trans c3
          have Fc4 := fun i => ((hFb i).cell (p := ⟨b, off + j * 8 + 4, none⟩) hbw).trans c4
          have Fc5 := fun i => ((hFb i).cell (p := ⟨b, off + j * 8 + 5, none⟩) hbw).trans c5
          have Fc6 := fun i => ((hFb i).cell (p := ⟨b, off + j * 8 + 6, none⟩) hbw).trans c6
          have Fc7 := fun i => ((hFb i).cell (p := ⟨b, off + j * 8 + 7, none⟩) hbw).trans c7
          have HCF := Lib.hid (fun i => HC.out (F i) (hFb i))
          haveI : Nonempty ι := ⟨i0'⟩
          refine wp_region_quiet_fam F i0' h0' (by kernel_rfl) (by kernel_rfl) ?_
          repeat (go_big_quiet_step (first
            | (go_at_call 29; refine (HCF.out _).mono ?_; rintro e w4 ⟨rfl, hb4⟩; exact ⟨rfl, hcl _ _ hb4⟩)))
          refine wpQuiet_nil ?_
          intro i
          have S5 := Lib.hid (S.out.call (hFb i))
          clear HCF 
          go_wp2
          go_roundw
          case rel => exact ⟨j + 1, so2, by omega, by go_num, rfl, S5, HSN, Lib.hid (fun r2 h => Nat.le_trans (HRL.out r2 h) hr2)⟩
          case measure => simp [intOf]; omega
      · have hltI : ¬ (j : Int) < m := by omega
        obtain rfl : m = j := by omega
        have htk : p.l.take m = p.l := List.take_of_length_le (by rw [HM.out]; omega)
        have hst := HST.out
        rw [htk] at hst
        have HXX := Lib.hid hst
        clear htk hst
        go_wp2_with fail
        go_meet
        exact ⟨by rw [HXX.out], S⟩
  case rest =>
    obtain ⟨rfl, S⟩ := hcut
    have HS1 : Hid (∀ r, roomPs k.vars k.chans.length (deep + 1) true false (n - 1) p.l = some r → r ≤ 2048) := Lib.hid fun r h => by have := roomPs_le h; omega
    generalize roomPs k.vars k.chans.length (deep + 1) true false (n - 1) p.l = s1 at *
    clear HIL q0 q1 q2 q3 q4 q5 q6 q7 q8 q9 q10 q11 q12 e0 e1 e2 e3 e4 e5 e6 e7
    go_wp2_with fail
    go_loopw [2, 8] (fun v i wr => ∃ (j : Nat) (so : Option Nat), j ≤ mg ∧ i = .int .i64 j ∧ v = .int .i64 (roomZ so) ∧ Hid (LfAt w wr #[.slice k.Av k.vars.length k.cv, .slice k.Ac k.chans.length k.cc, .int .u8 k.root.kind, .int .i64 k.root.c, .int .i64 k.root.v, .int .u8 k.root.item, .slice k.root.At k.root.tos.length k.root.ct, .slice k.root.Ae k.root.e.length k.root.ce, .slice k.root.Ag k.root.g.length k.root.cg, .slice k.root.Al k.root.l.length k.root.cl, .slice k.Ap k.procs.length k.cp, .int .i64 deep, .bool true] #[.int .u8 p.kind, .int .i64 p.c, .int .i64 p.v, .int .u8 p.item, .slice p.At p.tos.length p.ct, .slice p.Ae p.e.length p.ce, .slice p.Ag mg p.cg, .slice p.Al m p.cl]) ∧ Hid (behindG k.vars k.chans.length (deep + 1) true s1 (p.g.take j) = so) ∧ Hid (∀ r, so = some r → r ≤ 2048)) (fun _ i _ => mg - (intOf i).toNat)
    case atStart => exact ⟨0, s1, Nat.zero_le _, rfl, rfl, S, Lib.hid behindG_nil, HS1⟩
    case round =>
      clear S HS1
      obtain ⟨j, so, hj, rfl, rfl, S, HST, HRR⟩ := hrel
      have x1 := S.out.kb
      have x2 := S.out.pb
      have hkw := x1.lt
      have hpw := x2.lt
      have q0 := x1.cell 0
      have q1 := x1.cell 1
      have q2 := x1.cell 2
      have q3 := x1.cell 3
      have q4 := x1.cell 4
      have q5 := x1.cell 5
      have q6 := x1.cell 6
      have q7 := x1.cell 7
      have q8 := x1.cell 8
      have q9 := x1.cell 9
      have q10 := x1.cell 10
      have q11 := x1.cell 11
      have q12 := x1.cell 12
      simp at q0 q1 q2 q3 q4 q5 q6 q7 q8 q9 q10 q11 q12
      have e0 := x2.cell 0
      have e1 := x2.cell 1
      have e2 := x2.cell 2
      have e3 := x2.cell 3
      have e4 := x2.cell 4
      have e5 := x2.cell 5
      have e6 := x2.cell 6
      have e7 := x2.cell 7
      simp at e0 e1 e2 e3 e4 e5 e6 e7
      clear x1 x2
      by_cases hlt : j < mg
      · have hltI : (j : Int) < mg := by omega
        cases so with
        | none =>
          have HXX := Lib.hid (behindG_take_none HST.out)
          simp only [roomZ]
          go_wp2
          go_ret
          exact ⟨by rw [HXX.out]; rfl, S.out.bel⟩
        | some r =>
          have hr2 := HRR.out r rfl
          have hst := HST.out
          have hin := HW.out wr S.out.bel
          obtain ⟨b, off, g, hA, hb, hx, hmx, hG⟩ := kgs_at hin.2.1.one.2.2.2.1.1 rfl (k := j) (by rw [HMG.out]; exact hlt)
          have hbw : b < wr.heap.size := Nat.lt_of_lt_of_le hb hin.2.2
          have g17 := hG.c17
          obtain ⟨qq, hq⟩ := HGB.out g hmx
          have hbo := (hin.2.1.one.2.2.2.1.2 g hmx).2.2.2.2
          obtain ⟨b2, off2, x, hA2, hb2, hx2, hmx2, c0, c1, c2, c3, c4, c5, c6, c7⟩ := kps_at hbo rfl (k := 0) (by rw [hq]; simp)
          have hxq : x = qq := by rw [hq] at hx2; simpa using hx2.symm
          subst hxq
          have hbw2 : b2 < wr.heap.size := Nat.lt_of_lt_of_le hb2 hin.2.2
          rw [hq] at g17
          rw [hA2] at g17
          rw [hA] at e6
          rw [Nat.zero_mul, Nat.add_zero] at c0 c1 c2 c3 c4 c5 c6 c7
          simp only [List.length_singleton] at g17
          simp only [roomZ]
          have HC : Hid (∀ w1 : World, Below wr.heap.size wr w1 → Calls Try.prog 29 #[.agg (innerV k ((deep : Int) + 1) true), .agg x.cells, .int .i64 r] w1 (RetV (.int .i64 (roomZ (roomP k.vars k.chans.length (deep + 1) true r x))) w1)) := Lib.hid fun w1 h => by
            have h1 := HW.out w1 (S.out.bel.trans (h.mono S.out.bel.size))
            have h2 := HIG.out g hmx x hmx2 (deep + 1) r true B w1 (by omega) hr2 h1.1 (h1.2.1.guard hmx hmx2) h1.2.2
            have h3 : ((deep + 1 : Nat) : Int) = (deep : Int) + 1 := by omega
            rw [h3] at h2
            exact h2
          have HSN := Lib.hid ((behindG_snoc hx hst).trans (roomG_one hq))
          have HRL : Hid (∀ r2, roomP k.vars k.chans.length (deep + 1) true r x = some r2 → r2 ≤ r) := Lib.hid fun r2 h => roomP_le x _ _ _ _ h
          generalize roomP k.vars k.chans.length (deep + 1) true r x = so2 at *
          simp only [innerV, KP.cells] at HC
          clear hx hmx hA hst hin hG hq hbo hx2 hmx2 hA2
          go_upto_region 11 with fail
          obtain ⟨ι, F, i0', h0', hFb, hcl⟩ := fam_below wr
          have Fq0 := fun i => ((hFb i).cell (p := ⟨w.heap.size, 0, none⟩) hkw).trans q0
          have Fq1 := fun i => ((hFb i).cell (p := ⟨w.heap.size, 1, none⟩) hkw).trans q1
          have Fq2 := fun i => ((hFb i).cell (p := ⟨w.heap.size, 2, none⟩) hkw).trans q2
          have Fq3 := fun i => ((hFb i).cell (p := ⟨w.heap.size, 3, none⟩) hkw).trans q3
          have Fq4 := fun i => ((hFb i).cell (p := ⟨w.heap.size, 4, none⟩) hkw).trans q4
          have Fq5 := fun i => ((hFb i).cell (p := ⟨w.heap.size, 5, none⟩) hkw).trans q5
          have Fq6 := fun i => ((hFb i).cell (p := ⟨w.heap.size, 6, none⟩) hkw).trans q6
          have Fq7 := fun i => ((hFb i).cell (p := ⟨w.heap.size, 7, none⟩) hkw).trans q7
          have Fq8 := fun i => ((hFb i).cell (p := ⟨w.heap.size, 8, none⟩) hkw).trans q8
          have Fq9 := fun i => ((hFb i).cell (p := ⟨w.heap.size, 9, none⟩) hkw).trans q9
          have Fq10 := fun i => ((hFb i).cell (p := ⟨w.heap.size, 10, none⟩) hkw).trans q10
          have Fq11 := fun i => ((hFb i).cell (p := ⟨w.heap.size, 11, none⟩) hkw).trans q11
          have Fq12 := fun i => ((hFb i).cell (p := ⟨w.heap.size, 12, none⟩) hkw).trans q12
          have Fe6 := fun i => ((hFb i).cell (p := ⟨w.heap.size + 1, 6, none⟩) hpw).trans e6
          have Fg17 := fun i => ((hFb i).cell (p := ⟨b, off + j * 18 + 17, none⟩) hbw).trans g17
          have Fc0 := fun i => ((hFb i).cell (p := ⟨b2, off2, none⟩) hbw2).trans c0
          have Fc1 := fun i => ((hFb i).cell (p := ⟨b2, off2 + 1, none⟩) hbw2).trans c1
          have Fc2 := fun i => ((hFb i).cell (p := ⟨b2, off2 + 2, none⟩) hbw2).trans c2
          have Fc3 := fun i => ((hFb i).cell (p := ⟨b2, off2 + 3, none⟩) hbw2).trans c3
          have Fc4 := fun i => ((hFb i).cell (p := ⟨b2, off2 + 4, none⟩) hbw2).trans c4
          have Fc5 := fun i => ((hFb i).cell (p := ⟨b2, off2 + 5, none⟩) hbw2).trans c5
          have Fc6 := fun i => ((hFb i).cell (p := ⟨b2, off2 + 6, none⟩) hbw2).trans c6
          have Fc7 := fun i => ((hFb i).cell (p := ⟨b2, off2 + 7, none⟩) hbw2).trans c7
          have HCF := Lib.hid (fun i => HC.out (F i) (hFb i))
          haveI : Nonempty ι := ⟨i0'⟩
          refine wp_region_quiet_fam F i0' h0' (by kernel_rfl) (by kernel_rfl) ?_
          repeat (go_big_quiet_step (first
            | (go_at_call 29; refine (HCF.out _).mono ?_; rintro e w4 ⟨rfl, hb4⟩; exact ⟨rfl, hcl _ _ hb4⟩)))
          refine wpQuiet_nil ?_
          intro i
          have S5 := Lib.hid (S.out.call (hFb i))
          clear HCF 
          go_wp2
          go_roundw
          case rel => exact ⟨j + 1, so2, by omega, by go_num, rfl, S5, HSN, Lib.hid (fun r2 h => Nat.le_trans (HRL.out r2 h) hr2)⟩
          case measure => simp [intOf]; omega
      · have hltI : ¬ (j : Int) < mg := by omega
        obtain rfl : mg = j := by omega
        have htk : p.g.take mg = p.g := List.take_of_length_le (by rw [HMG.out]; omega)
        have hst := HST.out
        rw [htk] at hst
        have HXX := Lib.hid hst
        clear htk hst
        go_wp2
        go_ret
        exact ⟨by rw [HXX.out]; rfl, S.out.bel⟩
end Go.Proofs.Ytekamebpjjkifaa
