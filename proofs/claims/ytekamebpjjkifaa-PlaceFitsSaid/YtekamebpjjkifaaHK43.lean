/- Texts that belong together, joined: what each one holds is told ahead of it. -/
import Derived.Test.YtekamebpjjkifaaHK42
import Derived.Test.YtekamebpjjkifaaHK33
/- The channels between branches, in the document: Between, walked. -/
namespace Go.Proofs.Ytekamebpjjkifaa
open Go.RowKit Go.Maps
set_option linter.unusedSimpArgs false
set_option linter.unusedVariables false

/-- The state of the document's Between. -/
structure BtR (w wz W : World) (k : KK) (bs : List KP) (c : Nat) (v : Value) (l : List (Int × Int × Int)) : Prop where
  kw : Below w.heap.size w W
  kb : Blk W w.heap.size 34 k.flat
  l : BtL wz W bs c v l
theorem BtL.call {wz W W1 : World} {bs : List KP} {c : Nat} {v : Value} {l : List (Int × Int × Int)} (h : BtL wz W bs c v l) (hb : Below W.heap.size W W1) : BtL wz W1 bs c v l := ⟨h.bel.trans (hb.mono h.bel.size), h.eq, h.own.below hb⟩
theorem BtR.call {w wz W W1 : World} {k : KK} {bs : List KP} {c : Nat} {v : Value} {l : List (Int × Int × Int)} (h : BtR w wz W k bs c v l) (hb : Below W.heap.size W W1) : BtR w wz W1 k bs c v l := ⟨h.kw.trans (hb.mono h.kw.size), h.kb.call hb, h.l.call hb⟩
theorem below_drew0 (W : World) : Below W.heap.size W W.drew := ⟨rfl, rfl, rfl, Nat.le_refl _, fun _ _ => rfl⟩
theorem BtR.same {w wz W : World} {k : KK} {bs : List KP} {c : Nat} {v : Value} {l : List (Int × Int × Int)} (h : BtR w wz W k bs c v l) {U1 U2 : List Nat} (h1 : usersL ((c : Int), true) 0 bs = U1) (h2 : usersL ((c : Int), false) 0 bs = U2) (l1 : U1.length ≤ 1) (l2 : U2.length ≤ 1) (hr : rowC U1.head? U2.head? c = []) : BtR w wz W k bs (c + 1) v l := by
  subst h1 h2
  refine ⟨h.kw, h.kb, h.l.bel, ?_, h.l.own⟩
  have := betweenN_snoc h.l.eq (betweenC_un l1 l2)
  rwa [hr, List.append_nil] at this
theorem BtR.app {w wz W w' : World} {k : KK} {bs : List KP} {c : Nat} {v v' : Value} {l : List (Int × Int × Int)} {x y z : Int} (h : BtR w wz W k bs c v l) (hwz : w.heap.size < wz.heap.size) {U1 U2 : List Nat} (h1 : usersL ((c : Int), true) 0 bs = U1) (h2 : usersL ((c : Int), false) 0 bs = U2) (l1 : U1.length ≤ 1) (l2 : U2.length ≤ 1) (hr : rowC U1.head? U2.head? c = [(x, y, z)])
    (ho : w'.ownsRow wz.heap.size 57 3 v' (l.length + 1) (tripC l ++ (#[.int .i64 x, .int .i64 y, .int .i64 z] : Array Value).toList)) (hb : Below wz.heap.size (W.alloc (.cells #[.int .i64 x, .int .i64 y, .int .i64 z] 57)) w') : BtR w wz w' k bs (c + 1) v' (l ++ [(x, y, z)]) := by
  subst h1 h2
  have hb2 : Below wz.heap.size W w' := ((Below.refl _ W).alloc h.l.bel.size _).trans hb
  refine ⟨h.kw.trans (hb2.mono (by omega)), h.kb.below hb2 hwz, h.l.bel.trans hb2, ?_, ?_⟩
  · have := betweenN_snoc h.l.eq (betweenC_un l1 l2)
    rwa [hr] at this
  · rw [tripC_snoc, List.length_append]
    exact ho
set_option maxRecDepth 100000 in
set_option maxHeartbeats 8000000 in
theorem rBetween (k : KK) (B : Nat) (w : World) (hk : k.In w B) (hB : B ≤ w.heap.size) :
    Calls Try.prog 9 #[.agg k.flat] w (RetBt (betweenQ k) w) := by
  obtain ⟨W0, hW0⟩ : ∃ W0, w.alloc (.cells k.flat 34) = W0 := ⟨_, rfl⟩
  obtain ⟨l1, l2⟩ := lay1 w k.flat 34
  have hz0 : W0.heap.size = w.heap.size + 1 := by rw [← hW0]; simp
  rw [hW0] at l1 l2
  have K0 := Lib.hid l1
  have L0 := Lib.hid l2
  have HM := Lib.hid (fun (w1 : World) (hb : Below w.heap.size w w1) => rMay16 k B w1 (hk.below (hb.mono hB)) (Nat.le_trans hB hb.size))
  have HEN : Hid (MayF k → ∀ (c : Int) (out : Bool) (w1 : World), Below w.heap.size w w1 → Calls Try.prog 23 #[.agg k.flat, .int .i64 c, .bool out] w1 (RetInts (usersL (c, out) 0 (branchesK k)) w1)) := Lib.hid fun hF c out w1 hb => rEnds k hF c out B w1 (hk.below (hb.mono hB)) (Nat.le_trans hB hb.size)
  have HMF := Lib.hid (fun h => mayF (k := k) h)
  have hQ : betweenQ k = if mayK k = true then (match betweenK k with | none => ((400 : Int), []) | some l => (0, l)) else (2, []) := rfl
  have HQ := Lib.hid hQ
  generalize betweenQ k = Q at *
  have HZ0 := Lib.hid hz0
  simp only [KK.flat] at l2 hW0 HM HEN ⊢
  have e0 := l2.cell 0
  have e1 := l2.cell 1
  have e2 := l2.cell 2
  have e3 := l2.cell 3
  have e4 := l2.cell 4
  have e5 := l2.cell 5
  have e6 := l2.cell 6
  have e7 := l2.cell 7
  have e8 := l2.cell 8
  have e9 := l2.cell 9
  have e10 := l2.cell 10
  simp at e0 e1 e2 e3 e4 e5 e6 e7 e8 e9 e10
  clear l1 l2 hk hQ hz0
  cases hm : mayK k with
  | false =>
    rw [hm] at HM HQ
    have HQ2 : Hid (Q = (2, [])) := Lib.hid HQ.out
    clear HQ HEN HMF hm
    go_enter Try.func9, Try.ntmps9
    go_wp2_with (first
      | (go_at_call 12; (with_reducible refine (HM.out _ K0.out).mono ?_); rintro e1 w1 ⟨rfl, hb1⟩))
    go_ret2
    obtain rfl := HQ2.out
    exact ⟨K0.out.trans (hb1.mono K0.out.size), none, 0, rfl, ⟨rfl, fun h => absurd h (by simp)⟩⟩
  | true =>
    rw [hm] at HM HQ
    have HF := Lib.hid (HMF.out hm)
    have HE := Lib.hid (HEN.out HF.out)
    have HQ2 : Hid (Q = (match betweenK k with | none => ((400 : Int), []) | some l => (0, l))) := Lib.hid HQ.out
    clear HQ HEN HMF hm
    go_enter Try.func9, Try.ntmps9
    go_upto_region 3 with (first
      | (go_at_call 12; (with_reducible refine (HM.out _ K0.out).mono ?_); rintro e1 wz ⟨rfl, hb1⟩))
    have S0 : Hid (BtR w wz wz k (branchesK k) 0 (.slice none 0 0) []) := Lib.hid ⟨K0.out.trans (hb1.mono K0.out.size), L0.out.call hb1, Below.refl _ _, by rw [betweenN], World.ownsRow_nil _ _ _ _⟩
    have HWZ : Hid (w.heap.size < wz.heap.size) := Lib.hid (by have := hb1.size; rw [HZ0.out] at this; omega)
    clear hb1 HM e0 e1 e2 e3 e4 e5 e6 e7 e8 e9 e10 hW0 K0 L0 HZ0
    obtain ⟨bs, hbs⟩ : ∃ q, branchesK k = q := ⟨_, rfl⟩
    rw [hbs] at S0 HE
    have HBS := Lib.hid hbs
    clear hbs
    obtain ⟨nc, hnc⟩ : ∃ q, k.chans.length = q := ⟨_, rfl⟩
    have HNC := Lib.hid hnc
    have hc64 := HF.out.c64
    rw [hnc] at hc64
    simp only [hnc] at HE ⊢
    obtain ⟨i0, hi0, hz0, hz1, hz2⟩ := info_parts trip_info
    go_wp2_with fail
    go_loopw [5, 4] (fun i v W => ∃ (c2 : Nat) (l : List (Int × Int × Int)), c2 ≤ nc ∧ i = .int .i64 c2 ∧ Hid (BtR w wz W k bs c2 v l)) (fun i _ _ => nc - (intOf i).toNat)
    case atStart => exact ⟨0, [], Nat.zero_le _, rfl, S0⟩
    case round =>
      clear S0
      obtain ⟨c2, l, hc2, rfl, S⟩ := hrel
      have x1 := S.out.kb
      simp only [KK.flat, hnc] at x1
      have e0 := x1.cell 0
      have e1 := x1.cell 1
      have e2 := x1.cell 2
      have e3 := x1.cell 3
      have e4 := x1.cell 4
      have e5 := x1.cell 5
      have e6 := x1.cell 6
      have e7 := x1.cell 7
      have e8 := x1.cell 8
      have e9 := x1.cell 9
      have e10 := x1.cell 10
      simp at e0 e1 e2 e3 e4 e5 e6 e7 e8 e9 e10
      clear x1
      by_cases hlt : c2 < nc
      · have hltI : (c2 : Int) < nc := by omega
        obtain ⟨U1, hU1⟩ : ∃ q, usersL ((c2 : Int), true) 0 bs = q := ⟨_, rfl⟩
        obtain ⟨U2, hU2⟩ : ∃ q, usersL ((c2 : Int), false) 0 bs = q := ⟨_, rfl⟩
        have HE1 := Lib.hid (HE.out (c2 : Int) true)
        have HE2 := Lib.hid (HE.out (c2 : Int) false)
        rw [hU1] at HE1
        rw [hU2] at HE2
        have HU1 := Lib.hid hU1
        have HU2 := Lib.hid hU2
        clear hU1 hU2
        go_upto_region 8 with (first
          | (go_at_call 23; (with_reducible refine (HE1.out _ S.out.kw).mono ?_); rintro e1 w1 ⟨hb1, A1, c1, rfl, hrd1, hfr1⟩))
        have S1 := Lib.hid (S.out.call hb1)
        have HOLD : Hid (∀ q, u4.ownBlock = some q → q < wr.heap.size) := Lib.hid fun q hq => (S.out.l.own.lt q hq).2
        have HFR1 := Lib.hid hfr1
        have HW0 := Lib.hid hb1.size
        have HR1 := Lib.hid hrd1
        clear hb1 hrd1 hfr1 S e0 e1 e2 e3 e4 e5 e6 e7 e8 e9 e10 HE1
        have x1 := S1.out.kb
        simp only [KK.flat, hnc] at x1
        have e0 := x1.cell 0
        have e1 := x1.cell 1
        have e2 := x1.cell 2
        have e3 := x1.cell 3
        have e4 := x1.cell 4
        have e5 := x1.cell 5
        have e6 := x1.cell 6
        have e7 := x1.cell 7
        have e8 := x1.cell 8
        have e9 := x1.cell 9
        have e10 := x1.cell 10
        simp at e0 e1 e2 e3 e4 e5 e6 e7 e8 e9 e10
        clear x1
        go_upto_region 9 with (first
          | (go_at_call 23; (with_reducible refine (HE2.out _ S1.out.kw).mono ?_); rintro e1 w2 ⟨hb2, A2, c3, rfl, hrd2, hfr2⟩))
        have S := Lib.hid (S1.out.call hb2)
        have HR1' := Lib.hid (HR1.out.below hb2)
        have HR2 := Lib.hid hrd2
        have HFR2 := Lib.hid hfr2
        have HW1 := Lib.hid hb2.size
        clear hb2 hrd2 hfr2 S1 HR1 e0 e1 e2 e3 e4 e5 e6 e7 e8 e9 e10 HE2
        have HLL := Lib.hid (betweenN_len S.out.l.eq)
        obtain ⟨n1, hn1⟩ : ∃ q, U1.length = q := ⟨_, rfl⟩
        obtain ⟨n2, hn2⟩ : ∃ q, U2.length = q := ⟨_, rfl⟩
        simp only [hn1, hn2] at HR1' HR2 ⊢
        by_cases h1 : 2 ≤ n1
        · have y1 : (1 : Int) < (n1 : Int) := by omega
          have HX : Hid (Q = (400, [])) := Lib.hid (by
            rw [HQ2.out]
            unfold betweenK
            rw [HBS.out, HNC.out, betweenN_none hlt (betweenC_clash (o := true) (by rw [HU1.out, hn1]; exact h1))])
          clear h1 hn1 hn2
          go_wp2
          go_ret2
          obtain rfl := HX.out
          exact ⟨S.out.kw, none, 0, rfl, ⟨rfl, fun h => absurd h (by simp)⟩⟩
        have y1 : ¬ (1 : Int) < (n1 : Int) := by omega
        by_cases h2 : 2 ≤ n2
        · have y2 : (1 : Int) < (n2 : Int) := by omega
          have HX : Hid (Q = (400, [])) := Lib.hid (by
            rw [HQ2.out]
            unfold betweenK
            rw [HBS.out, HNC.out, betweenN_none hlt (betweenC_clash (o := false) (by rw [HU2.out, hn2]; exact h2))])
          clear h1 h2 hn1 hn2
          go_wp2
          go_ret2
          obtain rfl := HX.out
          exact ⟨S.out.kw, none, 0, rfl, ⟨rfl, fun h => absurd h (by simp)⟩⟩
        have y2 : ¬ (1 : Int) < (n2 : Int) := by omega
        have HL1 : Hid (U1.length ≤ 1) := Lib.hid (by rw [hn1]; omega)
        have HL2 : Hid (U2.length ≤ 1) := Lib.hid (by rw [hn2]; omega)
        have HN1 := Lib.hid hn1
        have HN2 := Lib.hid hn2
        clear hn1 hn2 h1 h2
        have HR1 := HR1'
        clear HR1'
        by_cases h0 : c2 = 0
        · have y0 : ((c2 : Int) == 0) = true := by simp [h0]
          have ye : ((c2 : Int) == 1) = false := by simp; omega
          have yg : ¬ (1 : Int) < (c2 : Int) := by omega
          rcases U2 with _ | ⟨i2, tl⟩
          · have HRC : Hid (rowC U1.head? ([] : List Nat).head? c2 = []) := Lib.hid (by rw [h0]; rfl)
            clear h0
            have yn2 : ((n2 : Int) == 1) = false := by have := HN2.out; simp at this; simp <;> omega
            go_upto_region 15 with fail
            go_quiet (fail)
            have S4 := Lib.hid ((S.out.call (below_drewN (Below.refl _ _) nq)).same HU1.out HU2.out HL1.out HL2.out HRC.out)
            go_wp2
            go_roundw
            case rel => exact ⟨c2 + 1, l, by omega, by go_num, S4⟩
            case measure => simp [intOf]; omega
          · obtain rfl : tl = [] := by have := HL2.out; cases tl with | nil => rfl | cons a b => simp at this
            have HRC : Hid (rowC U1.head? [i2].head? c2 = [((0 : Int), (-1 : Int), (i2 : Int))]) := Lib.hid (by rw [h0]; rfl)
            clear h0
            have yn2 : ((n2 : Int) == 1) = true := by have := HN2.out; simp at this; simp <;> omega
            obtain ⟨b2, off2, hA2, hb2, hce2⟩ := HR2.out.addr (by have := HN2.out; simp at this; omega) (by decide)
            have ce2 := hce2 0 (.int .i64 (i2 : Int)) (by simp [natsC])
            rw [Nat.add_zero] at ce2
            subst hA2
            have hbw2 : b2 < w2.heap.size := hb2
            have hpos2 : (0 : Int) < (n2 : Int) := by have := HN2.out; simp at this; omega
            clear hce2
            have OW := Lib.hid (S.out.l.own.alloc (.cells #[.int .i64 0, .int .i64 (-1), .int .i64 (i2 : Int)] 57))
            have bN := Blk.new w2 57 #[.int .i64 0, .int .i64 (-1), .int .i64 (i2 : Int)]
            have hlz := S.out.l.bel.size
            have hll := HLL.out
            go_upto_region 15 with (at_builtin; refine app_own Try.underlying42 hi0 hz0 hz1 hz2 rfl (by decide) OW.out (by simp; omega) rfl (.tmp 39) (.tmp 44) rfl rfl w2.heap.size 1 1 #[.int .i64 0, .int .i64 (-1), .int .i64 (i2 : Int)] rfl bN rfl (by simp [Value.oneCell']) (by omega) (by omega) ?_; intro v' w' hown hg hb4 hat)
            have S4 := Lib.hid (S.out.app HWZ.out HU1.out HU2.out HL1.out HL2.out HRC.out hown (hb4.mono (by simp <;> omega)))
            clear hown hg hb4 hat bN OW hlz hll
            go_quiet (fail)
            have S5 := Lib.hid (S4.out.call (below_drewN (Below.refl _ _) nq))
            clear S4
            go_wp2
            go_roundw
            case rel => exact ⟨c2 + 1, _, by omega, by go_num, S5⟩
            case measure => simp [intOf]; omega
        by_cases h1 : c2 = 1
        · have y0 : ((c2 : Int) == 0) = false := by simp; omega
          have ye : ((c2 : Int) == 1) = true := by simp [h1]
          have yg : ¬ (1 : Int) < (c2 : Int) := by omega
          rcases U1 with _ | ⟨i1, tl⟩
          · have HRC : Hid (rowC ([] : List Nat).head? U2.head? c2 = []) := Lib.hid (by rw [h1]; rfl)
            clear h0 h1
            have yn1 : ((n1 : Int) == 1) = false := by have := HN1.out; simp at this; simp <;> omega
            go_upto_region 15 with fail
            go_quiet (fail)
            have S4 := Lib.hid ((S.out.call (below_drewN (Below.refl _ _) nq)).same HU1.out HU2.out HL1.out HL2.out HRC.out)
            go_wp2
            go_roundw
            case rel => exact ⟨c2 + 1, l, by omega, by go_num, S4⟩
            case measure => simp [intOf]; omega
          · obtain rfl : tl = [] := by have := HL1.out; cases tl with | nil => rfl | cons a b => simp at this
            have HRC : Hid (rowC [i1].head? U2.head? c2 = [((1 : Int), (i1 : Int), (-1 : Int))]) := Lib.hid (by rw [h1]; rfl)
            clear h0 h1
            have yn1 : ((n1 : Int) == 1) = true := by have := HN1.out; simp at this; simp <;> omega
            obtain ⟨b1, off1, hA1, hb1, hce1⟩ := HR1.out.addr (by have := HN1.out; simp at this; omega) (by decide)
            have ce1 := hce1 0 (.int .i64 (i1 : Int)) (by simp [natsC])
            rw [Nat.add_zero] at ce1
            subst hA1
            have hbw1 : b1 < w2.heap.size := Nat.lt_of_lt_of_le hb1 HW1.out
            have hpos1 : (0 : Int) < (n1 : Int) := by have := HN1.out; simp at this; omega
            clear hce1
            have OW := Lib.hid (S.out.l.own.alloc (.cells #[.int .i64 1, .int .i64 (i1 : Int), .int .i64 (-1)] 57))
            have bN := Blk.new w2 57 #[.int .i64 1, .int .i64 (i1 : Int), .int .i64 (-1)]
            have hlz := S.out.l.bel.size
            have hll := HLL.out
            go_upto_region 15 with (at_builtin; refine app_own Try.underlying42 hi0 hz0 hz1 hz2 rfl (by decide) OW.out (by simp; omega) rfl (.tmp 53) (.tmp 58) rfl rfl w2.heap.size 1 1 #[.int .i64 1, .int .i64 (i1 : Int), .int .i64 (-1)] rfl bN rfl (by simp [Value.oneCell']) (by omega) (by omega) ?_; intro v' w' hown hg hb4 hat)
            have S4 := Lib.hid (S.out.app HWZ.out HU1.out HU2.out HL1.out HL2.out HRC.out hown (hb4.mono (by simp <;> omega)))
            clear hown hg hb4 hat bN OW hlz hll
            go_quiet (fail)
            have S5 := Lib.hid (S4.out.call (below_drewN (Below.refl _ _) nq))
            clear S4
            go_wp2
            go_roundw
            case rel => exact ⟨c2 + 1, _, by omega, by go_num, S5⟩
            case measure => simp [intOf]; omega
        have y0 : ((c2 : Int) == 0) = false := by simp; omega
        have ye : ((c2 : Int) == 1) = false := by simp; omega
        have yg : (1 : Int) < (c2 : Int) := by omega
        rcases U1 with _ | ⟨i1, tl⟩
        · have HRC : Hid (rowC ([] : List Nat).head? U2.head? c2 = []) := Lib.hid (rowC_n1 h0 h1)
          clear h0 h1
          have yn1 : ((n1 : Int) == 1) = false := by have := HN1.out; simp at this; simp <;> omega
          go_upto_region 15 with fail
          go_quiet (fail)
          have S4 := Lib.hid ((S.out.call (below_drewN (Below.refl _ _) nq)).same HU1.out HU2.out HL1.out HL2.out HRC.out)
          go_wp2
          go_roundw
          case rel => exact ⟨c2 + 1, l, by omega, by go_num, S4⟩
          case measure => simp [intOf]; omega
        obtain rfl : tl = [] := by have := HL1.out; cases tl with | nil => rfl | cons a b => simp at this
        rcases U2 with _ | ⟨i2, tl⟩
        · have HRC : Hid (rowC [i1].head? ([] : List Nat).head? c2 = []) := Lib.hid (rowC_n2 h0 h1)
          clear h0 h1
          have yn1 : ((n1 : Int) == 1) = true := by have := HN1.out; simp at this; simp <;> omega
          have yn2 : ((n2 : Int) == 1) = false := by have := HN2.out; simp at this; simp <;> omega
          go_upto_region 15 with fail
          go_quiet (fail)
          have S4 := Lib.hid ((S.out.call (below_drewN (Below.refl _ _) nq)).same HU1.out HU2.out HL1.out HL2.out HRC.out)
          go_wp2
          go_roundw
          case rel => exact ⟨c2 + 1, l, by omega, by go_num, S4⟩
          case measure => simp [intOf]; omega
        obtain rfl : tl = [] := by have := HL2.out; cases tl with | nil => rfl | cons a b => simp at this
        have yn1 : ((n1 : Int) == 1) = true := by have := HN1.out; simp at this; simp <;> omega
        have yn2 : ((n2 : Int) == 1) = true := by have := HN2.out; simp at this; simp <;> omega
        obtain ⟨b1, off1, hA1, hb1, hce1⟩ := HR1.out.addr (by have := HN1.out; simp at this; omega) (by decide)
        have ce1 := hce1 0 (.int .i64 (i1 : Int)) (by simp [natsC])
        rw [Nat.add_zero] at ce1
        subst hA1
        have hbw1 : b1 < w2.heap.size := Nat.lt_of_lt_of_le hb1 HW1.out
        have hpos1 : (0 : Int) < (n1 : Int) := by have := HN1.out; simp at this; omega
        clear hce1
        obtain ⟨b2, off2, hA2, hb2, hce2⟩ := HR2.out.addr (by have := HN2.out; simp at this; omega) (by decide)
        have ce2 := hce2 0 (.int .i64 (i2 : Int)) (by simp [natsC])
        rw [Nat.add_zero] at ce2
        subst hA2
        have hbw2 : b2 < w2.heap.size := hb2
        have hpos2 : (0 : Int) < (n2 : Int) := by have := HN2.out; simp at this; omega
        clear hce2
        by_cases hij : i1 = i2
        · have HRC : Hid (rowC [i1].head? [i2].head? c2 = []) := Lib.hid (by show rowC (some i1) (some i2) c2 = []; rw [rowC_ss h0 h1]; simp [hij])
          have yn : ((i1 : Int) != (i2 : Int)) = false := by simp [hij]
          clear h0 h1 hij
          go_upto_region 15 with fail
          go_quiet (fail)
          have S4 := Lib.hid ((S.out.call (below_drewN (Below.refl _ _) nq)).same HU1.out HU2.out HL1.out HL2.out HRC.out)
          go_wp2
          go_roundw
          case rel => exact ⟨c2 + 1, l, by omega, by go_num, S4⟩
          case measure => simp [intOf]; omega
        have HRC : Hid (rowC [i1].head? [i2].head? c2 = [((c2 : Int), (i1 : Int), (i2 : Int))]) := Lib.hid (by show rowC (some i1) (some i2) c2 = _; rw [rowC_ss h0 h1]; simp [hij])
        have yn : ((i1 : Int) != (i2 : Int)) = true := by simp; omega
        clear h0 h1 hij
        go_upto_region 15 with fail
        go_quiet (fail)
        have S3 := Lib.hid (S.out.call (below_drewN (Below.refl _ _) nq))
        have q1 : (w2.drewN nq).cell? ⟨b1, off1, none⟩ = some (.int .i64 (i1 : Int)) := ce1
        have q2 : (w2.drewN nq).cell? ⟨b2, off2, none⟩ = some (.int .i64 (i2 : Int)) := ce2
        have hz : (w2.drewN nq).heap.size = w2.heap.size := rfl
        rw [← hz] at hbw1 hbw2
        clear hz
        generalize w2.drewN nq = wq at *
        have hlz := S3.out.l.bel.size
        have hll := HLL.out
        have q1d : wq.drew.cell? ⟨b1, off1, none⟩ = some (.int .i64 (i1 : Int)) := q1
        have q2d : wq.drew.cell? ⟨b2, off2, none⟩ = some (.int .i64 (i2 : Int)) := q2
        have kq : Below wq.heap.size wq (wq.alloc (.cells #[.int .i64 (c2 : Int), .int .i64 (i1 : Int), .int .i64 (i2 : Int)] 57)) := (Below.refl wq.heap.size wq).alloc (Nat.le_refl _) _
        have q3 : (wq.alloc (.cells #[.int .i64 (c2 : Int), .int .i64 (i1 : Int), .int .i64 (i2 : Int)] 57)).drew.cell? ⟨b1, off1, none⟩ = some (.int .i64 (i1 : Int)) ∧ (wq.alloc (.cells #[.int .i64 (c2 : Int), .int .i64 (i1 : Int), .int .i64 (i2 : Int)] 57)).drew.cell? ⟨b2, off2, none⟩ = some (.int .i64 (i2 : Int)) := ⟨(kq.cell (p := ⟨b1, off1, none⟩) hbw1).trans q1, (kq.cell (p := ⟨b2, off2, none⟩) hbw2).trans q2⟩
        have OW := Lib.hid (S3.out.l.own.alloc (.cells #[.int .i64 (c2 : Int), .int .i64 (i1 : Int), .int .i64 (i2 : Int)] 57)).drew'
        have bN := (Blk.new wq 57 #[.int .i64 (c2 : Int), .int .i64 (i1 : Int), .int .i64 (i2 : Int)]).drew
        have ne1 : some b1 ≠ u4.ownBlock := fun e => by have h1 := HOLD.out _ e.symm; have h2 := HFR1.out b1 rfl; omega
        have ne2 : some b2 ≠ u4.ownBlock := fun e => by have h1 := HOLD.out _ e.symm; have h2 := HFR2.out b2 rfl; have := HW0.out; omega
        obtain rfl : n1 = 1 := by have := HN1.out; simpa using this.symm
        obtain rfl : n2 = 1 := by have := HN2.out; simpa using this.symm
        clear hpos1 hpos2 yn1 yn2 y1 y2
        go_upto_region 16 with fail
        go_region_held3 (fun w' => w'.cell? ⟨b1, off1, none⟩ = some (.int .i64 (i1 : Int)) ∧ w'.cell? ⟨b2, off2, none⟩ = some (.int .i64 (i2 : Int))) (first | exact ⟨q1d, q2d⟩ | exact q3 | exact ⟨hg.cell q3.1 ne1, hg.cell q3.2 ne2⟩)
          (first
            | (go_loud (refine step_app_own Try.underlying42 hi0 hz0 hz1 hz2 rfl (by decide) OW.out (by simp; omega) rfl (.tmp 81) (.tmp 90) rfl rfl wq.heap.size 1 1 #[.int .i64 (c2 : Int), .int .i64 (i1 : Int), .int .i64 (i2 : Int)] rfl bN rfl (by simp [Value.oneCell']) (by omega) (by omega) ?_); intro v' w' hown hg hb4 hat))
        have hb5 : Below wz.heap.size (wq.alloc (.cells #[.int .i64 (c2 : Int), .int .i64 (i1 : Int), .int .i64 (i2 : Int)] 57)) w' := ⟨hb4.os, hb4.tape, hb4.output, hb4.size, hb4.block⟩
        have S4 := Lib.hid (S3.out.app HWZ.out HU1.out HU2.out HL1.out HL2.out HRC.out hown hb5)
        clear hown hg hb4 hat bN OW hlz hll q3 kq q1 q2 q1d q2d hb5
        go_wp2
        go_roundw
        case rel => exact ⟨c2 + 1, _, by omega, by go_num, S4⟩
        case measure => simp [intOf]; omega
      · have hltI : ¬ (c2 : Int) < nc := by omega
        obtain rfl : nc = c2 := by omega
        have hQ3 : Q = (0, l) := by
          rw [HQ2.out]
          unfold betweenK
          rw [HBS.out, HNC.out, S.out.l.eq]
        have HQ3 := Lib.hid hQ3
        clear hQ3
        obtain ⟨A9, c9, hv9⟩ := own_slice S.out.l.own
        subst hv9
        go_wp2
        go_ret2
        obtain rfl := HQ3.out
        exact ⟨S.out.kw, A9, c9, rfl, Reads.of_own S.out.l.own⟩
end Go.Proofs.Ytekamebpjjkifaa
