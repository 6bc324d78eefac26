/- Texts that belong together, joined: what each one holds is told ahead of it. -/
import Derived.Test.YtekamebpjjkifaaHK25
import Derived.Test.YtekamebpjjkifaaHK21
/- Assignments, in the document: typed, walked; typed whole. -/
namespace Go.Proofs.Ytekamebpjjkifaa
open Go.RowKit
set_option linter.unusedSimpArgs false
set_option linter.unusedVariables false

/-- One of an assignment's places, with its expression. -/
def asgB (vs : List KVar) (t : KPl) (e : KE) : Bool := (if t.v < 0 then false else match vs[t.v.toNat]? with
    | none => false
    | some x => placeB vs t x.kind && FitsB vs e x.kind)
theorem assignsB_cons (vs : List KVar) (t : KPl) (ts : List KPl) (e : KE) (es : List KE) : assignsB vs (t :: ts) (e :: es) = (asgB vs t e && assignsB vs ts es) := rfl
theorem assignsB_zip (vs : List KVar) : ∀ (ts : List KPl) (es : List KE), ts.length = es.length → assignsB vs ts es = (ts.zip es).all (fun x => asgB vs x.1 x.2)
  | [], [], _ => rfl
  | [], _ :: _, h => by simp at h
  | _ :: _, [], h => by simp at h
  | t :: ts, e :: es, h => by
    rw [assignsB_cons, assignsB_zip vs ts es (by simpa using h), List.zip_cons_cons, List.all_cons]
theorem assignsB_len (vs : List KVar) : ∀ (ts : List KPl) (es : List KE), ts.length ≠ es.length → assignsB vs ts es = false
  | [], [], h => absurd rfl h
  | [], _ :: _, _ => rfl
  | _ :: _, [], _ => rfl
  | t :: ts, e :: es, h => by
    rw [assignsB_cons, assignsB_len vs ts es (by simpa using h), Bool.and_false]
theorem assignsB_step {vs : List KVar} {ts : List KPl} {es : List KE} (hl : ts.length = es.length) {j : Nat} {t : KPl} {e : KE} (ht : ts[j]? = some t) (he : es[j]? = some e) (ha : ((ts.zip es).take j).all (fun x => asgB vs x.1 x.2) = true) :
    (asgB vs t e = false → assignsB vs ts es = false) ∧ (asgB vs t e = true → ((ts.zip es).take (j + 1)).all (fun x => asgB vs x.1 x.2) = true) := by
  have hz : (ts.zip es)[j]? = some (t, e) := by rw [List.getElem?_zip_eq_some]; exact ⟨ht, he⟩
  refine ⟨fun hf => ?_, fun htr => ?_⟩
  · rw [assignsB_zip vs ts es hl, List.all_eq_false]
    exact ⟨(t, e), List.mem_of_getElem? hz, by simp [hf]⟩
  · rw [List.take_add_one, hz, Option.toList_some, List.all_append, ha]
    simp [htr]
theorem assignsB_end {vs : List KVar} {ts : List KPl} {es : List KE} (hl : ts.length = es.length) {j : Nat} (hj : ts.length ≤ j) (ha : ((ts.zip es).take j).all (fun x => asgB vs x.1 x.2) = true) : assignsB vs ts es = true := by
  rw [assignsB_zip vs ts es hl]
  rwa [List.take_of_length_le (by rw [List.length_zip]; omega)] at ha
end Go.Proofs.Ytekamebpjjkifaa

/- Assignments in the checker, walked in the program. -/
namespace Go.Proofs.Ytekamebpjjkifaa
open Go.RowKit
set_option linter.unusedSimpArgs false
set_option linter.unusedVariables false

/-- The checker and the process's box, in a world. -/
structure AsAt (w W : World) (B bc : Nat) (k : KK) (n : Int) (ps : Array Value) : Prop where
  bel : Below w.heap.size w W
  pb : Blk W w.heap.size 31 ps
  chk : Chk W B bc k n
theorem AsAt.call {w W W1 : World} {B bc : Nat} {k : KK} {n : Int} {ps : Array Value} (h : AsAt w W B bc k n ps) (hb : Below W.heap.size W W1) : AsAt w W1 B bc k n ps := ⟨h.bel.trans (hb.mono h.bel.size), h.pb.call hb, h.chk.call hb⟩
set_option maxRecDepth 100000 in
set_option maxHeartbeats 8000000 in
theorem k_assign (k : KK) (n : Int) (p : KP) (B bc : Nat) (w : World) (hc : Chk w B bc k n) (hi : p.One w B) :
    Calls Try.prog 57 #[.pointer (some ⟨bc, 0, none⟩), .agg p.cells] w (RetV (.bool (shapeP p false false 1 8 1 8 0 0 0 0 && (decide (p.tos.length = p.e.length) && assignsB k.vars p.tos p.e))) w) := by
  obtain ⟨W0, hW0⟩ : ∃ W, w.alloc (.cells p.cells 31) = W := ⟨_, rfl⟩
  have b0 : Blk W0 w.heap.size 31 p.cells := by rw [← hW0]; exact Blk.new w _ _
  have K0 : Below w.heap.size w W0 := by rw [← hW0]; exact (Below.refl _ _).alloc (Nat.le_refl _) _
  have hc0 := hc.call K0
  have hi0 := hi.below (K0.mono hc.leB)
  have HK0 := Lib.hid K0
  have HB0 := Lib.hid b0
  have HSh := Lib.hid (fun w1 => kShapeP_ff p 1 8 1 8 0 0 0 0 w1)
  obtain ⟨W1, hW1⟩ : ∃ W, W0.alloc (.cells #[.int .i64 1, .int .i64 8] 120) = W := ⟨_, rfl⟩
  have K1 : Below W0.heap.size W0 W1 := by rw [← hW1]; exact (Below.refl _ _).alloc (Nat.le_refl _) _
  have bs : Blk W1 W0.heap.size 120 #[.int .i64 1, .int .i64 8] := by rw [← hW1]; exact Blk.new _ _ _
  have hsz : W0.heap.size = w.heap.size + 1 := by rw [← hW0]; simp
  have HW : Hid (∀ w1 : World, Below w.heap.size w w1 → p.One w1 B ∧ B ≤ w1.heap.size) := Lib.hid fun w1 hb => ⟨hi.below (hb.mono hc.leB), Nat.le_trans hc.leB hb.size⟩
  have b1 := b0.call K1
  have S0 : Hid (AsAt w W1 B bc k n p.cells) := Lib.hid ⟨K0.trans (K1.mono K0.size), b1, hc0.call K1⟩

  have s0 := bs.cell 0
  have s1 := bs.cell 1
  simp at s0 s1
  have HST := Lib.hid (fun (hl : p.tos.length = p.e.length) (j : Nat) (t : KPl) (e : KE) => assignsB_step (vs := k.vars) hl (j := j) (t := t) (e := e))
  have HEN := Lib.hid (fun (hl : p.tos.length = p.e.length) (j : Nat) => assignsB_end (vs := k.vars) hl (j := j))
  obtain ⟨m, hm⟩ : ∃ m, p.tos.length = m := ⟨_, rfl⟩
  obtain ⟨me, hme⟩ : ∃ m, p.e.length = m := ⟨_, rfl⟩
  have HM := Lib.hid hm
  have HME := Lib.hid hme
  have hone := hi.2.1.1
  unfold lenOk at hone
  rw [hm] at hone
  generalize assignsB k.vars p.tos p.e = R at *
  cases hs : shapeP p false false 1 8 1 8 0 0 0 0 with
  | false =>
    rw [hs] at HSh
    rw [Bool.false_and]
    simp only [KP.cells, hm, hme] at hW0 b1 HSh S0 ⊢
    have e0 := b1.cell 0
    have e1 := b1.cell 1
    have e2 := b1.cell 2
    have e3 := b1.cell 3
    have e4 := b1.cell 4
    have e5 := b1.cell 5
    have e6 := b1.cell 6
    have e7 := b1.cell 7
    simp at e0 e1 e2 e3 e4 e5 e6 e7
    clear b0 b1 K0 K1 hc0 hi0 hc hi HB0 hs hm hme bs hsz
    go_enter Try.func57, Try.ntmps57
    go_wp2_with (go_at_call 70; (with_reducible refine (HSh.out _).mono ?_); rintro e1 w1 ⟨rfl, hb1⟩)
    go_ret
    exact ⟨rfl, S0.out.bel.trans (hb1.mono S0.out.bel.size)⟩
  | true =>
    rw [hs] at HSh
    rw [Bool.true_and, hm, hme]
    have hl1 : 1 ≤ m ∧ m ≤ 8 := by have := shapeP_len hs; omega
    obtain ⟨b, off, x0, hA, -, -, -, -, -⟩ := kpls_at hi0.2.1 rfl (k := 0) (by omega)
    have HA0 := Lib.hid hA
    simp only [KP.cells, hm, hme, hA] at hW0 b1 HSh S0 ⊢
    have e0 := b1.cell 0
    have e1 := b1.cell 1
    have e2 := b1.cell 2
    have e3 := b1.cell 3
    have e4 := b1.cell 4
    have e5 := b1.cell 5
    have e6 := b1.cell 6
    have e7 := b1.cell 7
    simp at e0 e1 e2 e3 e4 e5 e6 e7
    clear b0 b1 K0 K1 hc0 hi0 hc hi HB0 hs hm hme bs hsz hA
    by_cases hml : m = me
    · subst hml
      rw [show decide (m = m) = true by simp, Bool.true_and]
      have HLE : Hid (p.tos.length = p.e.length) := Lib.hid (by rw [HM.out, HME.out])
      have HST := Lib.hid (HST.out HLE.out)
      have HEN := Lib.hid (HEN.out HLE.out)
      go_enter Try.func57, Try.ntmps57
      go_wp2_with (first
        | (go_at_call 70; (with_reducible refine (HSh.out _).mono ?_); rintro e1 w1 ⟨rfl, hb1⟩
           have S := Lib.hid (S0.out.call hb1)
           have x1 := S.out.pb
           have f0 := x1.cell 0
           have f1 := x1.cell 1
           have f2 := x1.cell 2
           have f3 := x1.cell 3
           have f4 := x1.cell 4
           have f5 := x1.cell 5
           have f6 := x1.cell 6
           have f7 := x1.cell 7
           simp at f0 f1 f2 f3 f4 f5 f6 f7
           clear x1 hb1))
      go_loopw [28] (fun i wr => ∃ j : Nat, j ≤ m ∧ i = .int .i64 j ∧ Hid (AsAt w wr B bc k n #[.int .u8 p.kind, .int .i64 p.c, .int .i64 p.v, .int .u8 p.item, .slice (some ⟨b, off, none⟩) m p.ct, .slice p.Ae m p.ce, .slice p.Ag p.g.length p.cg, .slice p.Al p.l.length p.cl]) ∧ Hid (((p.tos.zip p.e).take j).all (fun x => asgB k.vars x.1 x.2) = true)) (fun i _ => m - (intOf i).toNat)
      case atStart => exact ⟨0, Nat.zero_le _, rfl, S, Lib.hid (by simp)⟩
      case round =>
        clear S S0 s0 s1 e0 e1 e2 e3 e4 e5 e6 e7 f0 f1 f2 f3 f4 f5 f6 f7
        obtain ⟨j, hj, rfl, S, HA⟩ := hrel
        by_cases hlt : j < m
        · have hltI : (j : Int) < m := by omega
          have hin := HW.out wr S.out.bel
          obtain ⟨b', off', x, hA, hb, hx, hix, c0, c1⟩ := kpls_at hin.1.2.1 rfl (k := j) (by rw [HM.out]; exact hlt)
          have hA3 := HA0.out.symm.trans hA
          injection hA3 with hA3
          injection hA3 with ha1 ha2
          subst ha1 ha2
          obtain ⟨vv, hvv⟩ : ∃ vv, x.v = vv := ⟨_, rfl⟩
          rw [hvv] at c0
          obtain ⟨b2, off2, y, hA2, hb2, hy, hiy, d0, d1, d2, d3, d4, d5⟩ := kes_six hin.1.2.2.1 (k := j) (by rw [HME.out]; exact hlt)
          obtain ⟨W2, hW2⟩ : ∃ W, wr.alloc (.cells #[.int .i64 vv, .slice x.A x.l.length x.c] 101) = W := ⟨_, rfl⟩
          have K2 : Below wr.heap.size wr W2 := by rw [← hW2]; exact (Below.refl _ _).alloc (Nat.le_refl _) _
          have bt : Blk W2 wr.heap.size 101 #[.int .i64 vv, .slice x.A x.l.length x.c] := by rw [← hW2]; exact Blk.new _ _ _
          have hbw2 : b2 < wr.heap.size := Nat.lt_of_lt_of_le hb2 hin.2
          have S2 := Lib.hid (S.out.call K2)
          have x1 := S2.out.pb
          have x0 := S.out.pb
          have hpw := x1.lt
          have htw := bt.lt
          have hcw := S2.out.chk.lt
          have f0 := x1.cell 0
          have f1 := x1.cell 1
          have f2 := x1.cell 2
          have f3 := x1.cell 3
          have f4 := x1.cell 4
          have f5 := x1.cell 5
          have f6 := x1.cell 6
          have f7 := x1.cell 7
          simp at f0 f1 f2 f3 f4 f5 f6 f7
          have e0 := x0.cell 0
          have e1 := x0.cell 1
          have e2 := x0.cell 2
          have e3 := x0.cell 3
          have e4 := x0.cell 4
          have e5 := x0.cell 5
          have e6 := x0.cell 6
          have e7 := x0.cell 7
          simp at e0 e1 e2 e3 e4 e5 e6 e7
          have t0 := bt.cell 0
          have t1 := bt.cell 1
          simp at t0 t1
          have q0 := S2.out.chk.c0
          rw [hA2] at f5
          have r0 := (K2.cell (p := ⟨b2, off2 + j * 6, none⟩) hbw2).trans d0
          have r1 := (K2.cell (p := ⟨b2, off2 + j * 6 + 1, none⟩) hbw2).trans d1
          have r2 := (K2.cell (p := ⟨b2, off2 + j * 6 + 2, none⟩) hbw2).trans d2
          have r3 := (K2.cell (p := ⟨b2, off2 + j * 6 + 3, none⟩) hbw2).trans d3
          have r4 := (K2.cell (p := ⟨b2, off2 + j * 6 + 4, none⟩) hbw2).trans d4
          have r5 := (K2.cell (p := ⟨b2, off2 + j * 6 + 5, none⟩) hbw2).trans d5
          have hbw3 : b2 < W2.heap.size := Nat.lt_of_lt_of_le hbw2 K2.size
          have hvs := S2.out.chk.inn.1.2.1
          have HV := Lib.hid (fun (h0 : ¬ vv < 0) (h1 : vv < (k.vars.length : Int)) => vars_at hvs rfl (k := vv.toNat) (by omega))
          have HN := Lib.hid (fun (h1 : ¬ vv < (k.vars.length : Int)) => List.getElem?_eq_none (l := k.vars) (i := vv.toNat) (by omega))
          have HX := Lib.hid (HST.out j x y hx hy HA.out)
          have HAS := Lib.hid (show asgB k.vars x y = if x.v < 0 then false else match k.vars[x.v.toNat]? with
            | none => false
            | some z => placeB k.vars x z.kind && FitsB k.vars y z.kind from rfl)
          rw [hvv] at HAS
          generalize asgB k.vars x y = ab at *
          have HIX : Hid (∀ w1 : World, Below wr.heap.size wr w1 → x.In w1 B ∧ y.In w1 B) := Lib.hid fun w1 h => ⟨hix.below (h.mono hin.2), hiy.below (h.mono hin.2)⟩
          have HK2 := Lib.hid K2
          clear hx hy hix hiy hA hA2 hin x1 x0 bt K2 d0 d1 d2 d3 d4 d5 hvs f0 f1 f2 f3 f6 f7 e0 e1 e2 e3 e5 e6 e7
          by_cases h0 : vv < 0
          · have HXX := Lib.hid (HX.out.1 (by rw [HAS.out, if_pos h0]))
            clear HV HN HX HAS
            go_upto_region 7 with fail
            go_quiet (fail)
            go_wp2
            go_ret
            exact ⟨by refine ret_bool rfl ?_; rw [HXX.out], below_drewN S2.out.bel _⟩
          have HAS := Lib.hid (HAS.out.trans (if_neg h0))
          by_cases h1 : vv < (k.vars.length : Int)
          · obtain ⟨b3, off3, z, hA3, hb3, hz, hmz, z0, z1⟩ := HV.out h0 h1
            have hbw4 : b3 < W2.heap.size := Nat.lt_of_lt_of_le hb3 S2.out.chk.leB
            have h1n : ¬ (k.vars.length : Int) ≤ vv := by omega
            have hz3 := primB_cases (S2.out.chk.ok.vs z hmz).1
            have HP : Hid (∀ w1 : World, Below W2.heap.size W2 w1 → Calls Try.prog 71 #[.pointer (some ⟨bc, 0, none⟩), .agg x.cells, .int .u8 z.kind] w1 (RetV (.bool (placeB k.vars x z.kind)) w1)) := Lib.hid fun w1 h =>
              kPlace k n x z.kind B bc w1 (S2.out.chk.call h) (HIX.out w1 (HK2.out.trans (h.mono HK2.out.size))).1
            have HF : Hid (∀ w1 : World, Below W2.heap.size W2 w1 → Calls Try.prog 72 #[.pointer (some ⟨bc, 0, none⟩), .agg y.cells, .int .u8 z.kind] w1 (RetV (.bool (FitsB k.vars y z.kind)) w1)) := Lib.hid fun w1 h =>
              kFits k n y z.kind hz3 B bc w1 (S2.out.chk.call h) (HIX.out w1 (HK2.out.trans (h.mono HK2.out.size))).2
            have HAS2 : Hid (ab = (placeB k.vars x z.kind && FitsB k.vars y z.kind)) := Lib.hid (by have h5 := HAS.out; rw [hz] at h5; exact h5)
            generalize placeB k.vars x z.kind = pb at *
            generalize FitsB k.vars y z.kind = fb at *
            rw [hA3] at q0
            simp only [KPl.cells, KE.cells, hvv] at HP HF
            clear HV HN hA3 hz hmz z1 HAS HA HST HEN hz3
            go_upto_region 7 with fail
            obtain ⟨ι, F, i0', h0', hFb, hcl⟩ := fam_below W2
            have Fq0 := fun i => ((hFb i).cell (p := ⟨bc, 0, none⟩) hcw).trans q0
            have Ft0 := fun i => ((hFb i).cell (p := ⟨wr.heap.size, 0, none⟩) htw).trans t0
            have Ft1 := fun i => ((hFb i).cell (p := ⟨wr.heap.size, 1, none⟩) htw).trans t1
            have Ff5 := fun i => ((hFb i).cell (p := ⟨w.heap.size, 5, none⟩) hpw).trans f5
            have Fr0 := fun i => ((hFb i).cell (p := ⟨b2, off2 + j * 6, none⟩) hbw3).trans r0
            have Fr1 := fun i => ((hFb i).cell (p := ⟨b2, off2 + j * 6 + 1, none⟩) hbw3).trans r1
            have Fr2 := fun i => ((hFb i).cell (p := ⟨b2, off2 + j * 6 + 2, none⟩) hbw3).trans r2
            have Fr3 := fun i => ((hFb i).cell (p := ⟨b2, off2 + j * 6 + 3, none⟩) hbw3).trans r3
            have Fr4 := fun i => ((hFb i).cell (p := ⟨b2, off2 + j * 6 + 4, none⟩) hbw3).trans r4
            have Fr5 := fun i => ((hFb i).cell (p := ⟨b2, off2 + j * 6 + 5, none⟩) hbw3).trans r5
            have Fz0 := fun i => ((hFb i).cell (p := ⟨b3, off3 + vv.toNat * 2, none⟩) hbw4).trans z0
            have HCP := Lib.hid (fun i => HP.out (F i) (hFb i))
            have HCF := Lib.hid (fun i => HF.out (F i) (hFb i))
            haveI : Nonempty ι := ⟨i0'⟩
            clear HP HF
            cases pb
            all_goals
              refine wp_region_quiet_fam F i0' h0' (by kernel_rfl) (by kernel_rfl) ?_
              repeat (go_big_quiet_step (first
                | (go_at_call 71; refine (HCP.out _).mono ?_; rintro e w4 ⟨rfl, hb4⟩; exact ⟨rfl, hcl _ _ hb4⟩)
                | (go_at_call 72; refine (HCF.out _).mono ?_; rintro e w4 ⟨rfl, hb4⟩; exact ⟨rfl, hcl _ _ hb4⟩)))
              refine wpQuiet_nil ?_
              intro i
              have S5 := Lib.hid (S2.out.call (hFb i))
              clear HCP HCF Fq0 Ft0 Ft1 Ff5 Fr0 Fr1 Fr2 Fr3 Fr4 Fr5 Fz0
            · have HXX := Lib.hid (HX.out.1 (by rw [HAS2.out]; rfl))
              go_wp2
              go_ret
              exact ⟨by refine ret_bool rfl ?_; rw [HXX.out], S5.out.bel⟩
            · cases fb
              · have HXX := Lib.hid (HX.out.1 (by rw [HAS2.out]; rfl))
                go_wp2
                go_ret
                exact ⟨by refine ret_bool rfl ?_; rw [HXX.out], S5.out.bel⟩
              · have HXX := Lib.hid (HX.out.2 (by rw [HAS2.out]; rfl))
                go_wp2
                go_roundw
                case rel => exact ⟨j + 1, by omega, by go_num, S5, HXX⟩
                case measure => simp [intOf]; omega
          · have HXX := Lib.hid (HX.out.1 (by rw [HAS.out, HN.out h1]))
            have h1n : (k.vars.length : Int) ≤ vv := by omega
            clear HV HN HX HAS
            go_upto_region 7 with fail
            go_quiet (fail)
            go_wp2
            go_ret
            exact ⟨by refine ret_bool rfl ?_; rw [HXX.out], below_drewN S2.out.bel _⟩
        · have hltI : ¬ (j : Int) < m := by omega
          obtain rfl : m = j := by omega
          have HXX := Lib.hid (HEN.out m (Nat.le_of_eq HM.out) HA.out)
          go_wp2
          go_ret
          exact ⟨by refine ret_bool rfl ?_; rw [HXX.out], S.out.bel⟩
    · have hm1 : ((m : Int) == (me : Int)) = false := by simp; omega
      have hm2 : ((m : Int) != (me : Int)) = true := by simp; omega
      rw [show decide (m = me) = false by simp [hml], Bool.false_and]
      clear hml
      go_enter Try.func57, Try.ntmps57
      go_wp2_with (first
        | (go_at_call 70; (with_reducible refine (HSh.out _).mono ?_); rintro e1 w1 ⟨rfl, hb1⟩
           have S := Lib.hid (S0.out.call hb1)
           have x1 := S.out.pb
           have f0 := x1.cell 0
           have f1 := x1.cell 1
           have f2 := x1.cell 2
           have f3 := x1.cell 3
           have f4 := x1.cell 4
           have f5 := x1.cell 5
           have f6 := x1.cell 6
           have f7 := x1.cell 7
           simp at f0 f1 f2 f3 f4 f5 f6 f7
           clear x1 hb1))
      go_ret
      exact ⟨rfl, S.out.bel⟩
end Go.Proofs.Ytekamebpjjkifaa
