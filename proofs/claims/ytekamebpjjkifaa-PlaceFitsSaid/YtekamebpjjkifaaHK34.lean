/- Texts that belong together, joined: what each one holds is told ahead of it. -/
import Derived.Test.YtekamebpjjkifaaHK33
/- Which kernels are valid, in the program: May, walked. -/
namespace Go.Proofs.Ytekamebpjjkifaa
open Go.RowKit
set_option linter.unusedSimpArgs false
set_option linter.unusedVariables false

theorem placedB_root {k : KK} (h0 : k.procs.length ≠ 0) (h : ¬ (k.root.kind = 10 ∧ k.root.l.length = k.procs.length)) : placedB k = false := by
  unfold placedB
  rw [decide_eq_false h0, Bool.false_or]
  by_cases h1 : k.root.kind = 10
  · rw [decide_eq_false (fun h2 => h ⟨h1, h2⟩), Bool.and_false]
  · rw [show (k.root.kind == 10) = false by simp [h1]]; simp
theorem placedB_ok {k : KK} (h : k.procs.length = 0 ∨ k.root.kind = 10 ∧ k.root.l.length = k.procs.length) (hp : procsOk k.procs) : placedB k = true := by
  by_cases h0 : k.procs.length = 0
  · unfold placedB; rw [decide_eq_true h0]; rfl
  · obtain ⟨h1, h2⟩ := h.resolve_left h0
    rw [placedB_end h0 hp, h2]
    simp [h1]
theorem host_snoc {k : KK} {n x : Nat} (hx : k.chans[n]? = some x) (hh : ∀ j h, j < n → k.chans[j]? = some h → hostB j h = true) (h1 : hostB n x = true) : ∀ j h, j < n + 1 → k.chans[j]? = some h → hostB j h = true := by
  intro j h hj hq
  by_cases hjn : j = n
  · rw [hjn, hx] at hq
    injection hq with hq
    rw [hjn, ← hq, h1]
  · exact hh j h (by omega) hq
theorem kMay_root {k : KK} (ok : KOk k) {B bc : Nat} {w w1 : World} (hk : k.In w B) (hB : B ≤ bc) (hb : Blk w bc 108 (chkRow k 2048)) :
    Calls Try.prog 35 #[.pointer (some ⟨bc, 0, none⟩), .agg k.root.cells, .int .i64 1, .bool false] w (RetPr (roomP k.vars k.chans.length 0 false 2048 k.root) bc k w) :=
  kProc k k.root 0 2048 false B bc w (by omega) (by omega) ⟨hb, hk, hB, ok⟩ hk.2.2.1
set_option maxRecDepth 100000 in
set_option maxHeartbeats 8000000 in
theorem kMay_main (k : KK) (B : Nat) (w : World) (hk : k.In w B) (hB : B ≤ w.heap.size) (hcap : k.procs.length ≤ k.cp) (hs : k.vars.length ≤ 256 ∧ 2 ≤ k.chans.length ∧ k.chans.length ≤ 64) :
    Calls Try.prog 20 #[.agg k.flat] w (RetV (.bool (mayK k)) w) := by
  obtain ⟨W0, hW0⟩ : ∃ W, w.alloc (.cells k.flat 34) = W := ⟨_, rfl⟩
  have b0 : Blk W0 w.heap.size 34 k.flat := by rw [← hW0]; exact Blk.new w _ _
  have K0 : Below w.heap.size w W0 := by rw [← hW0]; exact (Below.refl _ _).alloc (Nat.le_refl _) _
  have HW : Hid (∀ w1 : World, Below w.heap.size w w1 → k.In w1 B ∧ B ≤ w1.heap.size) := Lib.hid fun w1 hb => ⟨hk.below (hb.mono hB), Nat.le_trans hB hb.size⟩
  have S : Hid (MyAt w W0 k.flat) := Lib.hid ⟨K0, b0⟩
  have hlen := hk.2.2.2.1
  unfold lenOk at hlen
  have hroot := hk.2.2.1.one.1.2.2.2.2.2
  unfold lenOk at hroot
  have HS := Lib.hid hs
  have HPL := Lib.hid (fun h => mayK_placed (k := k) h)
  have HVR := Lib.hid (fun (j : Nat) (x : KVar) (h : k.vars[j]? = some x) (hx : varB x = false) => mayK_var h hx)
  have HHS := Lib.hid (fun (j : Nat) (x : Nat) (h : k.chans[j]? = some x) (hx : hostB j x = false) => mayK_host h hx)
  have HEN := Lib.hid (fun h1 h2 h3 h4 => mayK_end (k := k) h1 h2 h3 h4)
  generalize mayK k = R at *
  have HRT := Lib.hid (fun (ok : KOk k) (bc : Nat) (w1 : World) (hk : k.In w1 B) (hb : B ≤ bc) (hw : Blk w1 bc 108 (chkRow k 2048)) => kMay_root (w1 := w1) ok hk hb hw)
  have HKB : Hid (∀ w1 : World, Blk (w1.alloc (.cells (k.flat.push (.int .i64 2048)) 108)) w1.heap.size 108 (chkRow k 2048)) := Lib.hid fun w1 => Blk.new w1 _ _
  obtain ⟨nv, hnv⟩ : ∃ q, k.vars.length = q := ⟨_, rfl⟩
  obtain ⟨nc, hnc⟩ : ∃ q, k.chans.length = q := ⟨_, rfl⟩
  obtain ⟨m, hm⟩ : ∃ q, k.procs.length = q := ⟨_, rfl⟩
  obtain ⟨nl, hnl⟩ : ∃ q, k.root.l.length = q := ⟨_, rfl⟩
  obtain ⟨Av, hAv⟩ : ∃ q, k.Av = q := ⟨_, rfl⟩
  obtain ⟨Ac, hAc⟩ : ∃ q, k.Ac = q := ⟨_, rfl⟩
  obtain ⟨Ap, hAp⟩ : ∃ q, k.Ap = q := ⟨_, rfl⟩
  have HNV := Lib.hid hnv
  have HNC := Lib.hid hnc
  have HM := Lib.hid hm
  have HNL := Lib.hid hnl
  have HAv := Lib.hid hAv
  have HAc := Lib.hid hAc
  have HAp := Lib.hid hAp
  rw [hnv, hnc] at hs
  rw [hm] at hlen hcap
  rw [hnl] at hroot
  simp only [KK.flat, hnv, hnc, hm, hnl, hAv, hAc, hAp] at b0 hW0 S HKB ⊢
  simp only [KP.cells, hnl] at HRT
  have e0 := b0.cell 0
  have e1 := b0.cell 1
  have e2 := b0.cell 2
  have e3 := b0.cell 3
  have e4 := b0.cell 4
  have e5 := b0.cell 5
  have e6 := b0.cell 6
  have e7 := b0.cell 7
  have e8 := b0.cell 8
  have e9 := b0.cell 9
  have e10 := b0.cell 10
  simp at e0 e1 e2 e3 e4 e5 e6 e7 e8 e9 e10
  clear b0 K0 hk hnv hnc hm hnl hAv hAc hAp
  have y1 : ¬ (256 : Int) < nv := by omega
  have y2 : ¬ (nc : Int) < 2 := by omega
  have y3 : ¬ (64 : Int) < nc := by omega
  go_enter Try.func20, Try.ntmps20
  by_cases hbad : m ≠ 0 ∧ ¬ (k.root.kind = 10 ∧ nl = m)
  · have HXX := Lib.hid (HPL.out (placedB_root (by rw [HM.out]; exact hbad.1) (by rw [HNL.out, HM.out]; exact hbad.2)))
    obtain ⟨g0, g1⟩ := hbad
    have z0 : (0 : Int) < m := by omega
    by_cases hk10 : k.root.kind = 10
    · have z1 : ((k.root.kind : Int) != 10) = false := by simp [hk10]
      have z2 : ((nl : Int) != m) = true := by simp; intro h; exact g1 ⟨hk10, by omega⟩
      clear g0 g1 hk10
      go_wp2
      go_ret
      exact ⟨by refine ret_bool rfl ?_; rw [HXX.out], S.out.bel⟩
    · have z1 : ((k.root.kind : Int) != 10) = true := by simp; omega
      clear g0 g1 hk10
      go_wp2
      go_ret
      exact ⟨by refine ret_bool rfl ?_; rw [HXX.out], S.out.bel⟩
  have HGD : Hid (k.procs.length = 0 ∨ k.root.kind = 10 ∧ k.root.l.length = k.procs.length) := Lib.hid (by rw [HM.out, HNL.out]; by_cases h0 : m = 0; exact .inl h0; exact .inr (Decidable.not_not.1 fun h => hbad ⟨h0, h⟩))
  go_upto_region 3 with fail
  generalize Value.agg _ = AG
  go_cut [46] (fun s46 wx => s46 = .bool false ∧ wx = W0)
  case first =>
    by_cases h0 : m = 0
    · have z0 : ¬ (0 : Int) < (m : Int) := by omega
      clear hbad h0
      go_wp2_with fail
      go_meet
      exact ⟨rfl, rfl⟩
    · have z0 : (0 : Int) < m := by omega
      have hg := Decidable.not_not.1 fun h => hbad ⟨h0, h⟩
      have z1 : ((k.root.kind : Int) != 10) = false := by simp [hg.1]
      have HZ2 : Hid (((nl : Int) != m) = false) := Lib.hid (by simp [hg.2])
      clear hbad hg h0
      go_wp2_with fail
      go_meet
      exact ⟨by rw [HZ2.out], rfl⟩
  case rest =>
    obtain ⟨rfl, rfl⟩ := hcut
    clear hbad
    go_wp2_with fail
    go_loopw [50] (fun i wr => ∃ n : Nat, n ≤ m ∧ i = .int .i64 n ∧ Hid (procsOk (k.procs.take n)) ∧ wr = wc) (fun i _ => m - (intOf i).toNat)
    case atStart => exact ⟨0, Nat.zero_le _, rfl, Lib.hid ⟨by simp, by simp⟩, rfl⟩
    case round =>
      obtain ⟨n, hn, rfl, HOK, rfl⟩ := hrel
      by_cases hlt : n < m
      · have hltI : (n : Int) < m := by omega
        have hin := HW.out wr S.out.bel
        obtain ⟨b, off, hA, hb, hc⟩ := ints_at' hin.1.2.2.2.2.1 rfl (k := n) (by rw [HM.out]; exact hlt)
        rw [HAp.out] at hA
        subst hA
        have hbw : b < wr.heap.size := Nat.lt_of_lt_of_le hb hin.2
        obtain ⟨x, hx⟩ : ∃ x, k.procs[n]? = some x := ⟨_, List.getElem?_eq_getElem (by rw [HM.out]; exact hlt)⟩
        have c0 := hc n x hx
        have HH0 : Hid (k.procs.length ≠ 0) := Lib.hid (by rw [HM.out]; omega)
        have HRNG := Lib.hid (fun hr => HPL.out (placedB_range HH0.out hx hr))
        have HDUP := Lib.hid (fun (s : Nat) (hs : s < n) (hy : k.procs[s]? = some x) => HPL.out (placedB_dup HH0.out hy hx (by omega)))
        have HSN := Lib.hid (fun hne hr => procsOk_snoc hx HOK.out hne hr)
        have HC := Lib.hid (kContainsI k.procs n b off k.cp x wr (by rw [HM.out]; omega) (by omega) hc)
        clear hx hc hin
        by_cases hx0 : x < 0
        · have HXX := Lib.hid (HRNG.out (by omega))
          go_wp2_with fail
          go_ret
          exact ⟨by refine ret_bool rfl ?_; rw [HXX.out], S.out.bel⟩
        by_cases hx8 : 8 ≤ x
        · have HXX := Lib.hid (HRNG.out (by omega))
          go_wp2_with fail
          go_ret
          exact ⟨by refine ret_bool rfl ?_; rw [HXX.out], S.out.bel⟩
        go_wp2_with (go_at_call 33; (with_reducible refine (HC.out).mono ?_); rintro e1 w1 ⟨rfl, r, rfl, hr⟩; rcases hr with ⟨rfl, hr⟩ | ⟨rfl, hr⟩)
        · go_ret
          obtain ⟨s, hs, hy⟩ := hr
          exact ⟨by refine ret_bool rfl ?_; rw [HDUP.out s hs hy], S.out.bel⟩
        · go_roundw
          case rel => exact ⟨n + 1, by omega, by go_num, Lib.hid (HSN.out hr ⟨by omega, by omega⟩), trivial⟩
          case measure => simp [intOf]; omega
      · have hltI : ¬ (n : Int) < m := by omega
        obtain rfl : m = n := by omega
        have hok := HOK.out
        rw [List.take_of_length_le (by rw [HM.out]; omega)] at hok
        have HPB := Lib.hid (placedB_ok HGD.out hok)
        clear hok HOK HPL HGD
        go_wp2_with fail
        go_loopw [73] (fun i wx => ∃ n : Nat, n ≤ nv ∧ i = .int .i64 n ∧ Hid ((k.vars.take n).all varB = true) ∧ Hid (MyAt w wx #[.slice Av nv k.cv, .slice Ac nc k.cc, .int .u8 k.root.kind, .int .i64 k.root.c, .int .i64 k.root.v, .int .u8 k.root.item, .slice k.root.At k.root.tos.length k.root.ct, .slice k.root.Ae k.root.e.length k.root.ce, .slice k.root.Ag k.root.g.length k.root.cg, .slice k.root.Al nl k.root.cl, .slice Ap m k.cp])) (fun i _ => nv - (intOf i).toNat)
        case atStart => exact ⟨0, Nat.zero_le _, rfl, Lib.hid (by simp), S⟩
        case round =>
          clear S e0 e1 e2 e3 e4 e5 e6 e7 e8 e9 e10 hW0
          obtain ⟨n, hn, rfl, HV, S⟩ := hrel
          have x1 := S.out.kb
          have e0 := x1.cell 0
          have e1 := x1.cell 1
          have e2 := x1.cell 2
          have e3 := x1.cell 3
          have e4 := x1.cell 4
          have e5 := x1.cell 5
          have e6 := x1.cell 6
          have e7 := x1.cell 7
          have e8 := x1.cell 8
          have e9 := x1.cell 9
          have e10 := x1.cell 10
          simp at e0 e1 e2 e3 e4 e5 e6 e7 e8 e9 e10
          clear x1
          by_cases hlt : n < nv
          · have hltI : (n : Int) < nv := by omega
            have hin := HW.out wr S.out.bel
            obtain ⟨b, off, x, hA, hb, hx, hmx, c0, c1⟩ := vars_at hin.1.1.2.1 rfl (k := n) (by rw [HNV.out]; exact hlt)
            rw [HAv.out] at hA
            subst hA
            have hbw : b < wr.heap.size := Nat.lt_of_lt_of_le hb hin.2
            have HX := Lib.hid hx
            have HPr := Lib.hid (fun w1 => kPrim x.kind w1)
            have HVB := Lib.hid (show varB x = (primB x.kind && decide (0 ≤ x.dim ∧ x.dim ≤ 64)) from rfl)
            have S2 := Lib.hid (S.out.call ((Below.refl wr.heap.size wr).alloc (Nat.le_refl _) (.cells #[.int .u8 x.kind, .int .i64 x.dim] 82)))
            have bx := Blk.new wr 82 #[.int .u8 x.kind, .int .i64 x.dim]
            have HB := Lib.hid bx
            clear bx hx hmx hin
            go_upto_region 14 with fail
            generalize wr.alloc _ = w2 at *
            have bx := HB.out
            clear c0 c1 e0 e1 e2 e3 e4 e5 e6 e7 e8 e9 e10 HB S
            have d0 := bx.cell 0
            have d1 := bx.cell 1
            simp at d0 d1
            clear bx
            generalize primB x.kind = pb at *
            cases pb with
            | false =>
              have HXX := Lib.hid (HVR.out n x HX.out (by rw [HVB.out]; rfl))
              go_wp2_with (go_at_call 34; (with_reducible refine (HPr.out _).mono ?_); rintro e1 w3 ⟨rfl, rfl⟩)
              go_ret
              exact ⟨by refine ret_bool rfl ?_; rw [HXX.out], S2.out.bel⟩
            | true =>
              by_cases hd0 : x.dim < 0
              · have HXX := Lib.hid (HVR.out n x HX.out (by rw [HVB.out, decide_eq_false (by omega)]; rfl))
                go_wp2_with (go_at_call 34; (with_reducible refine (HPr.out _).mono ?_); rintro e1 w3 ⟨rfl, rfl⟩)
                go_ret
                exact ⟨by refine ret_bool rfl ?_; rw [HXX.out], S2.out.bel⟩
              by_cases hd1 : 64 < x.dim
              · have HXX := Lib.hid (HVR.out n x HX.out (by rw [HVB.out, decide_eq_false (by omega)]; rfl))
                go_wp2_with (go_at_call 34; (with_reducible refine (HPr.out _).mono ?_); rintro e1 w3 ⟨rfl, rfl⟩)
                go_ret
                exact ⟨by refine ret_bool rfl ?_; rw [HXX.out], S2.out.bel⟩
              · have HXX := Lib.hid (all_snoc HX.out HV.out (by rw [HVB.out, decide_eq_true (by omega)]; rfl))
                go_wp2_with (go_at_call 34; (with_reducible refine (HPr.out _).mono ?_); rintro e1 w3 ⟨rfl, rfl⟩)
                go_roundw
                case rel => exact ⟨n + 1, by omega, by go_num, HXX, S2⟩
                case measure => simp [intOf]; omega
          · have hltI : ¬ (n : Int) < nv := by omega
            obtain rfl : nv = n := by omega
            have hv := HV.out
            rw [List.take_of_length_le (by rw [HNV.out]; omega)] at hv
            have HVA := Lib.hid hv
            clear hv HV
            go_wp2_with fail
            have HRT := Lib.hid (HRT.out (KOk.of HS.out HVA.out))
            have HEN := Lib.hid (HEN.out HS.out HPB.out HVA.out)
            clear HVR
            go_loopw [95] (fun i wx => ∃ n : Nat, n ≤ nc ∧ i = .int .i64 n ∧ Hid (∀ j h, j < n → k.chans[j]? = some h → hostB j h = true) ∧ wx = wr) (fun i _ => nc - (intOf i).toNat)
            case atStart => exact ⟨0, Nat.zero_le _, rfl, Lib.hid (fun j h hj => absurd hj (by omega)), rfl⟩
            case round =>
              obtain ⟨n, hn2, rfl, HH, rfl⟩ := hrel
              by_cases hlt2 : n < nc
              · have hltI2 : (n : Int) < nc := by omega
                have hin := HW.out _ S.out.bel
                obtain ⟨b, off, x, hA, hb, hx, hmx, c0⟩ := hosts_at hin.1.2.1.2.1 rfl (k := n) (by rw [HNC.out]; exact hlt2)
                rw [HAc.out] at hA
                subst hA
                have HX := Lib.hid hx
                clear hx hmx hin
                by_cases hn0 : n = 0
                · have y0 : ((n : Int) == 0) = true := by simp [hn0]
                  have HHB : Hid (hostB n x = (x == 1)) := Lib.hid (by rw [hn0]; rfl)
                  clear hn0
                  by_cases hxe : x = 1
                  · have z2 : ((x : Int) != 1) = false := by simp [hxe]
                    have HXX := Lib.hid (host_snoc HX.out HH.out (by rw [HHB.out, hxe]; rfl))
                    clear hxe
                    go_wp2
                    go_roundw
                    case rel => exact ⟨n + 1, by omega, by go_num, HXX, trivial⟩
                    case measure => simp [intOf]; omega
                  · have z2 : ((x : Int) != 1) = true := by simp; omega
                    have HXX := Lib.hid (HHS.out n x HX.out (by rw [HHB.out]; simp; omega))
                    clear hxe
                    go_wp2
                    go_ret
                    exact ⟨by refine ret_bool rfl ?_; rw [HXX.out], S.out.bel⟩
                have y0 : ((n : Int) == 0) = false := by simp; omega
                by_cases hn1 : n = 1
                · have y1' : ((n : Int) == 1) = true := by simp [hn1]
                  have HHB : Hid (hostB n x = (x == 2)) := Lib.hid (by rw [hn1]; rfl)
                  clear hn0 hn1
                  by_cases hxe : x = 2
                  · have z2 : ((x : Int) != 2) = false := by simp [hxe]
                    have HXX := Lib.hid (host_snoc HX.out HH.out (by rw [HHB.out, hxe]; rfl))
                    clear hxe
                    go_wp2
                    go_roundw
                    case rel => exact ⟨n + 1, by omega, by go_num, HXX, trivial⟩
                    case measure => simp [intOf]; omega
                  · have z2 : ((x : Int) != 2) = true := by simp; omega
                    have HXX := Lib.hid (HHS.out n x HX.out (by rw [HHB.out]; simp; omega))
                    clear hxe
                    go_wp2
                    go_ret
                    exact ⟨by refine ret_bool rfl ?_; rw [HXX.out], S.out.bel⟩
                have y1' : ((n : Int) == 1) = false := by simp; omega
                have HHB : Hid (hostB n x = (x == 0)) := Lib.hid (by unfold hostB; rw [if_neg hn0, if_neg hn1])
                clear hn0 hn1
                by_cases hxe : x = 0
                · have z2 : ((x : Int) != 0) = false := by simp [hxe]
                  have HXX := Lib.hid (host_snoc HX.out HH.out (by rw [HHB.out, hxe]; rfl))
                  clear hxe
                  go_wp2
                  go_roundw
                  case rel => exact ⟨n + 1, by omega, by go_num, HXX, trivial⟩
                  case measure => simp [intOf]; omega
                · have z2 : ((x : Int) != 0) = true := by simp; omega
                  have HXX := Lib.hid (HHS.out n x HX.out (by rw [HHB.out]; simp; omega))
                  clear hxe
                  go_wp2
                  go_ret
                  exact ⟨by refine ret_bool rfl ?_; rw [HXX.out], S.out.bel⟩
              · have hltI2 : ¬ (n : Int) < nc := by omega
                obtain rfl : nc = n := by omega
                have HRR := Lib.hid (HEN.out (fun j h hj => HH.out j h (by rw [← HNC.out]; exact (List.getElem?_eq_some_iff.1 hj).1) hj))
                clear HH HEN HHS
                go_upto_region 30 with fail
                have hb2 := HKB.out wr
                simp only [List.push_toArray, List.cons_append, List.nil_append] at hb2
                have S2 := S.out.call ((Below.refl wr.heap.size wr).alloc (Nat.le_refl _) (.cells #[.slice Av nv k.cv, .slice Ac nc k.cc, .int .u8 k.root.kind, .int .i64 k.root.c, .int .i64 k.root.v, .int .u8 k.root.item, .slice k.root.At k.root.tos.length k.root.ct, .slice k.root.Ae k.root.e.length k.root.ce, .slice k.root.Ag k.root.g.length k.root.cg, .slice k.root.Al nl k.root.cl, .slice Ap m k.cp, .int .i64 2048] 108))
                generalize wr.alloc _ = W2 at *
                have x1 := S2.kb
                have HRT2 := Lib.hid (HRT.out wr.heap.size W2 (HW.out W2 S2.bel).1 (by have := S.out.bel.size; omega) hb2)
                have HSZ : Hid (w.heap.size ≤ wr.heap.size) := Lib.hid S.out.bel.size
                have HS2 := Lib.hid S2
                have HB2 := Lib.hid hb2
                clear HRT HKB S e0 e1 e2 e3 e4 e5 e6 e7 e8 e9 e10 hb2 S2
                have e0 := x1.cell 0
                have e1 := x1.cell 1
                have e2 := x1.cell 2
                have e3 := x1.cell 3
                have e4 := x1.cell 4
                have e5 := x1.cell 5
                have e6 := x1.cell 6
                have e7 := x1.cell 7
                have e8 := x1.cell 8
                have e9 := x1.cell 9
                have e10 := x1.cell 10
                simp at e0 e1 e2 e3 e4 e5 e6 e7 e8 e9 e10
                clear x1
                go_wp2_with (first
                  | (go_at_call 35; (with_reducible refine HRT2.out.mono ?_); rintro e1 w3 hpr
                     obtain ⟨br, rfl, hbR, hbl⟩ := kMay_end HRR.out HS2.out.bel HSZ.out HB2.out.lt hpr
                     have HBR := Lib.hid hbR
                     have HBL := Lib.hid hbl
                     clear hpr hbR hbl))
                go_ret
                exact ⟨by refine ret_bool rfl ?_; exact HBR.out, HBL.out⟩
theorem kMay16 (k : KK) (B : Nat) (w : World) (hk : k.In w B) (hB : B ≤ w.heap.size) (hcap : k.procs.length ≤ k.cp) :
    Calls Try.prog 20 #[.agg k.flat] w (RetV (.bool (mayK k)) w) := by
  by_cases hs : k.vars.length ≤ 256 ∧ 2 ≤ k.chans.length ∧ k.chans.length ≤ 64
  · exact kMay_main k B w hk hB hcap hs
  · rw [mayK_sizes hs]
    exact kMay_sizes k B w hk hB hs
end Go.Proofs.Ytekamebpjjkifaa
