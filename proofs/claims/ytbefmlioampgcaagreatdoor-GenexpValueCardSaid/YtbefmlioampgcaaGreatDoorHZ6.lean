/- GenexpValue, walked. -/
import Derived.Test.YtbefmlioampgcaaGreatDoorHK40
namespace Go.Proofs.YtbefmlioampgcaaGreatDoor
open Go.RowKit
set_option linter.unusedVariables false
set_option linter.unusedSimpArgs false

set_option maxRecDepth 100000 in
set_option maxHeartbeats 4000000 in
theorem rValueV (ss : List RwL) (As : Option Addr) (cs : Nat) (e : KE) (h32 : e.all (fun x => is32 x.n)) (hv : validE e = true) (B : Nat) (w : World) (hin : e.In w B) (hsi : rwsIn w B As ss) (hB : B ≤ w.heap.size) :
    Calls Tryz.prog 9 #[.slice As ss.length cs, .agg e.cells] w (RetV (wmO (valueE ss e)) w) := by
  obtain ⟨W0, hW0⟩ : ∃ W, w.alloc (.cells e.cells 27) = W := ⟨_, rfl⟩
  have K0 : Below w.heap.size w W0 := by rw [← hW0]; exact (Below.refl _ _).alloc (Nat.le_refl _) _
  have b0 : Blk W0 w.heap.size 27 e.cells := by rw [← hW0]; exact Blk.new _ _ _
  have HK0 := Lib.hid K0
  have HB0 := Lib.hid b0
  have HV := Lib.hid (rValid16 e B W0 (hin.below (K0.mono hB)) (Nat.le_trans hB K0.size))
  have HC : Hid (∀ W, Below w.heap.size w W → Calls Tryz.prog 28 #[.slice As ss.length cs, .agg e.cells] W (RetV (wmO (valueE ss e)) W)) := Lib.hid fun W hb =>
    rValue17 ss As cs e (validE_all hv) h32 B W (hin.below (hb.mono hB)) (hsi.below (hb.mono hB)) (Nat.le_trans hB hb.size)
  rw [hv] at HV
  simp only [KE.cells] at b0 hW0 HB0 HV HC ⊢
  unfold wmO at HC ⊢
  have c0 := b0.cell 0
  have c1 := b0.cell 1
  have c2 := b0.cell 2
  have c3 := b0.cell 3
  have c4 := b0.cell 4
  have c5 := b0.cell 5
  simp at c0 c1 c2 c3 c4 c5
  have hlt := b0.lt
  clear b0 K0 hin hsi hv h32 hB
  generalize valueE ss e = R at *
  go_enter Tryz.func9, Tryz.ntmps9
  go_wp2_with first
    | (go_at_call 27; (with_reducible refine HV.out.mono ?_); rintro e1 w1 ⟨rfl, hb1⟩
       have b1 := HB0.out.call hb1
       have d0 := b1.cell 0
       have d1 := b1.cell 1
       have d2 := b1.cell 2
       have d3 := b1.cell 3
       have d4 := b1.cell 4
       have d5 := b1.cell 5
       simp at d0 d1 d2 d3 d4 d5
       have hlt1 := b1.lt
       have K1 := Lib.hid (HK0.out.trans (hb1.mono HK0.out.size))
       clear b1 hb1)
    | (go_at_call 28; (with_reducible refine (HC.out _ K1.out).mono ?_); rintro e2 w2 ⟨rfl, hb2⟩)
  go_ret2
  exact ⟨rfl, K1.out.trans (hb2.mono K1.out.size)⟩
set_option maxRecDepth 100000 in
set_option maxHeartbeats 4000000 in
theorem lFits25 (g : EmL) (e : KE) (hl : g.vars.length ≤ 256) (B : Nat) (w : World) (hin : e.In w B) (hr : Reads w B 2 g.Av g.vars.length (varsC g.vars)) (hB : B ≤ w.heap.size) :
    Calls Tryz.prog 5 #[.slice g.Av g.vars.length g.cv, .agg e.cells] w (RetV (.bool (FitsB g.vars e 1 || FitsB g.vars e 2 || FitsB g.vars e 3)) w) := by
  obtain ⟨W0, hW0⟩ : ∃ W, w.alloc (.cells e.cells 27) = W := ⟨_, rfl⟩
  have K0 : Below w.heap.size w W0 := by rw [← hW0]; exact (Below.refl _ _).alloc (Nat.le_refl _) _
  have b0 : Blk W0 w.heap.size 27 e.cells := by rw [← hW0]; exact Blk.new _ _ _
  have HK0 := Lib.hid K0
  have HB0 := Lib.hid b0
  have HC : ∀ (q : Nat), (q : Int) = 1 ∨ (q : Int) = 2 ∨ (q : Int) = 3 → Hid (∀ W, Below w.heap.size w W → Calls Tryz.prog 17 #[.slice g.Av g.vars.length g.cv, .agg e.cells, .int .u8 q] W (RetV (.bool (FitsB g.vars e q)) W)) := fun q hq => Lib.hid fun W hb =>
    rFitsV g.vars e q hq g.Av g.cv B W (hr.below (hb.mono hB)) hl (hin.below (hb.mono hB)) (Nat.le_trans hB hb.size)
  have H1 := HC 1 (.inl rfl)
  have H2 := HC 2 (.inr (.inl rfl))
  have H3 := HC 3 (.inr (.inr rfl))
  generalize FitsB g.vars e 1 = F1 at *
  generalize FitsB g.vars e 2 = F2 at *
  generalize FitsB g.vars e 3 = F3 at *
  have e1 : ((1 : Nat) : Int) = 1 := rfl
  have e2 : ((2 : Nat) : Int) = 2 := rfl
  have e3 : ((3 : Nat) : Int) = 3 := rfl
  rw [e1] at H1
  rw [e2] at H2
  rw [e3] at H3
  simp only [KE.cells] at b0 hW0 HB0 H1 H2 H3 ⊢
  have c0 := b0.cell 0
  have c1 := b0.cell 1
  have c2 := b0.cell 2
  have c3 := b0.cell 3
  have c4 := b0.cell 4
  have c5 := b0.cell 5
  simp at c0 c1 c2 c3 c4 c5
  have hlt := b0.lt
  clear b0 K0 hin hr hB HC e1 e2 e3
  generalize g.vars.length = nv at *
  generalize g.cv = CV at *
  cases F1 with
  | true =>
    go_enter Tryz.func5, Tryz.ntmps5
    go_wp2_with first
      | (go_at_call 17; (with_reducible refine (H1.out _ HK0.out).mono ?_); rintro e1 w1 ⟨rfl, hb1⟩)
    go_ret
    exact ⟨rfl, HK0.out.trans (hb1.mono HK0.out.size)⟩
  | false =>
  cases F2 with
  | true =>
    go_enter Tryz.func5, Tryz.ntmps5
    go_wp2_with first
      | (go_at_call 17; (with_reducible refine (H1.out _ HK0.out).mono ?_); rintro e1 w1 ⟨rfl, hb1⟩
         have b1 := HB0.out.call hb1
         have d0 := b1.cell 0
         have d1 := b1.cell 1
         have d2 := b1.cell 2
         have d3 := b1.cell 3
         have d4 := b1.cell 4
         have d5 := b1.cell 5
         simp at d0 d1 d2 d3 d4 d5
         have hlt1 := b1.lt
         have K1 := Lib.hid (HK0.out.trans (hb1.mono HK0.out.size))
         clear b1 hb1)
      | (go_at_call 17; (with_reducible refine (H2.out _ K1.out).mono ?_); rintro e2 w2 ⟨rfl, hb2⟩)
    go_ret
    exact ⟨rfl, K1.out.trans (hb2.mono K1.out.size)⟩
  | false =>
    go_enter Tryz.func5, Tryz.ntmps5
    go_wp2_with first
      | (go_at_call 17; (with_reducible refine (H1.out _ HK0.out).mono ?_); rintro e1 w1 ⟨rfl, hb1⟩
         have b1 := HB0.out.call hb1
         have d0 := b1.cell 0
         have d1 := b1.cell 1
         have d2 := b1.cell 2
         have d3 := b1.cell 3
         have d4 := b1.cell 4
         have d5 := b1.cell 5
         simp at d0 d1 d2 d3 d4 d5
         have B1 := Lib.hid b1
         have hlt1 := b1.lt
         have K1 := Lib.hid (HK0.out.trans (hb1.mono HK0.out.size))
         clear b1 hb1)
      | (go_at_call 17; (with_reducible refine (H2.out _ K1.out).mono ?_); rintro e2 w2 ⟨rfl, hb2⟩
         have b2 := B1.out.call hb2
         have f0 := b2.cell 0
         have f1 := b2.cell 1
         have f2 := b2.cell 2
         have f3 := b2.cell 3
         have f4 := b2.cell 4
         have f5 := b2.cell 5
         simp at f0 f1 f2 f3 f4 f5
         have hlt2 := b2.lt
         have K2 := Lib.hid (K1.out.trans (hb2.mono K1.out.size))
         clear b2 hb2)
      | (go_at_call 17; (with_reducible refine (H3.out _ K2.out).mono ?_); rintro e3 w3 ⟨rfl, hb3⟩)
    go_ret
    exact ⟨by rfl, K2.out.trans (hb3.mono K2.out.size)⟩
set_option maxRecDepth 100000 in
set_option maxHeartbeats 8000000 in
theorem lValue (g : EmL) (e : KE) (temp : Int) (ss : List RwL) (As : Option Addr) (cs : Nat) (fill : Int) (B : Nat) (w : World) (hi : e.In w B) (hn : EnvIn0 g w B) (hti : i64ok temp) (hsi : rwsIn w B As ss) (hfi : is32 fill) (hL : LaidG B w) (hB : B ≤ w.heap.size) :
    Calls Tryz.prog 3 #[.agg (caseC g e temp), .slice As ss.length cs, .int .i32 fill] w (RetV (.bool true) w) := by
  obtain ⟨W0, hW0⟩ : ∃ W, w.alloc (.cells (caseC g e temp) 34) = W := ⟨_, rfl⟩
  have K0 : Below w.heap.size w W0 := by rw [← hW0]; exact (Below.refl _ _).alloc (Nat.le_refl _) _
  have b0 : Blk W0 w.heap.size 34 (caseC g e temp) := by rw [← hW0]; exact Blk.new _ _ _
  have hEN : ∀ W, Below w.heap.size w W → EnvIn0 g W B := fun W hb => by
    have hKB := hb.mono hB
    exact ⟨hn.1.below hKB, ⟨hn.2.1.1, hn.2.1.2.1.below hKB, hn.2.1.2.2⟩, hn.2.2⟩
  have HLY := lLay g e temp ss As cs fill hfi B W0 (hi.below (K0.mono hB)) (hEN W0 K0) hti (hsi.below (K0.mono hB)) (Nat.le_trans hB K0.size)
  have HH : Hid (∀ W, Below w.heap.size w W → Calls Tryz.prog 6 #[] W (RetV (.bool true) W)) := Lib.hid fun W hb => lHead B W (hL.on (hb.mono hB)) (Nat.le_trans hB hb.size)
  have HFI : Hid (g.vars.length ≤ 256 → ∀ W, Below w.heap.size w W → Calls Tryz.prog 5 #[.slice g.Av g.vars.length g.cv, .agg e.cells] W (RetV (.bool (FitsB g.vars e 1 || FitsB g.vars e 2 || FitsB g.vars e 3)) W)) := Lib.hid fun hl W hb =>
    lFits25 g e hl B W (hi.below (hb.mono hB)) (hn.2.1.2.1.below (hb.mono hB)) (Nat.le_trans hB hb.size)
  have HCO : Hid (∀ W, Below w.heap.size w W → Calls Tryz.prog 7 #[.agg e.cells, .slice g.Av g.vars.length g.cv, .agg g.s.cells, .int .i64 g.frame, .int .i64 temp, .string (strB g.label)] W (RetCode g e temp W)) := Lib.hid fun W hb => by
    have hKB := hb.mono hB
    exact gGenCode g e temp B W (hi.below hKB) (hEN W hb) (hL.on hKB) (Nat.le_trans hB hb.size) hti
  have h32 := i32_all hi
  have hst : ∀ r ∈ ss, ∀ v ∈ r.l, is32 v := fun r hr => (hsi.2.2 r hr).2.2
  have HVA : Hid (validE e = true → ∀ W, Below w.heap.size w W → Calls Tryz.prog 9 #[.slice As ss.length cs, .agg e.cells] W (RetV (wmO (valueE ss e)) W)) := Lib.hid fun hv W hb =>
    rValueV ss As cs e h32 hv B W (hi.below (hb.mono hB)) (hsi.below (hb.mono hB)) (Nat.le_trans hB hb.size)
  have HK0 := Lib.hid K0
  have HB0 := Lib.hid b0
  simp only [caseC] at b0 hW0 HLY HB0 ⊢
  simp only [KE.cells] at HFI HCO HVA
  simp only [SpL.cells] at HCO
  have c0 := b0.cell 0
  have c1 := b0.cell 1
  have c2 := b0.cell 2
  have c3 := b0.cell 3
  have c4 := b0.cell 4
  have c5 := b0.cell 5
  have c6 := b0.cell 6
  have c7 := b0.cell 7
  have c8 := b0.cell 8
  have c9 := b0.cell 9
  have c10 := b0.cell 10
  have c11 := b0.cell 11
  have c12 := b0.cell 12
  have c13 := b0.cell 13
  have c14 := b0.cell 14
  simp at c0 c1 c2 c3 c4 c5 c6 c7 c8 c9 c10 c11 c12 c13 c14
  have hlt := b0.lt
  obtain ⟨R, hR⟩ : ∃ R, layR g e temp ss fill = R := ⟨_, rfl⟩
  rw [hR] at HLY
  have hsl := hsi.1
  unfold lenOk at hsl
  clear b0 K0 hi hn hL hEN hsi hB
  cases R with
  | none =>
    have HL2 := Lib.hid (HLY.mono (fun en w' (h : RetLay none W0 en w') => (show Below W0.heap.size W0 w' ∧ ∃ A n c, en = .returned (.tuple #[.slice A n c, .bool false]) from ⟨h.1, by
      rcases h.2 with ⟨-, h2⟩ | ⟨s, A, c, h2, -⟩
      · exact h2
      · cases h2⟩)))
    clear HLY HCO HFI HVA hR
    generalize strB g.label = SLB at *
    go_enter Tryz.func3, Tryz.ntmps3
    go_wp2_with first
      | (go_at_call 4; (with_reducible refine HL2.out.mono ?_); rintro e1 w1 ⟨hb1, A, n, cq, rfl⟩
         have K1 := Lib.hid (HK0.out.trans (hb1.mono HK0.out.size))
         clear hb1)
      | (go_at_call 6; (with_reducible refine (HH.out _ K1.out).mono ?_); rintro e2 w2 ⟨rfl, hb2⟩)
    go_ret
    exact ⟨rfl, K1.out.trans (hb2.mono K1.out.size)⟩
  | some s =>
    have HL2 := Lib.hid (HLY.mono (fun en w' (h : RetLay (some s) W0 en w') => (show Below W0.heap.size W0 w' ∧ ∃ A c, en = .returned (.tuple #[.slice A s.1.length c, .bool true]) ∧ Reads w' w'.heap.size 1 A s.1.length (wordsC s.1) from ⟨h.1, by
      rcases h.2 with ⟨h2, -⟩ | ⟨s', A, c, h2, h3⟩
      · cases h2
      · obtain rfl := Option.some.inj h2; exact ⟨A, c, h3⟩⟩)))
    obtain ⟨m, hm, hmw⟩ : ∃ m, layN g e temp ss = some m ∧ layW g e temp ss fill m = some s := by
      unfold layR at hR
      cases hn : layN g e temp ss with
      | none => rw [hn] at hR; cases hR
      | some m => rw [hn] at hR; exact ⟨m, rfl, hR⟩
    have hvc := validC_e (layN_some hm).2.1
    have hve : validE e = true := hvc.1
    have hm5 := (layN_some hm).2.2.2.2.2
    have hsl1 : s.1.length = m.toNat := by
      unfold layW at hmw
      exact (markE_ok hst e (wo_ok fill temp.toNat (tempsV e) m.toNat) hmw).1
    have hsl2 : s.1.length ≤ 5000 := by omega
    have HFI2 := Lib.hid (HFI.out hvc.2.2.2)
    have HVA2 := Lib.hid (HVA.out hve)
    unfold wmO at HVA2
    clear HLY hR HFI HVA hvc
    cases hff : (FitsB g.vars e 1 || FitsB g.vars e 2 || FitsB g.vars e 3) with
    | false =>
      rw [hff] at HFI2
      clear hff HCO hm hmw hve hm5 hst hsl1 HVA2
      generalize s.1.length = N at *
      generalize strB g.label = SLB at *
      go_enter Tryz.func3, Tryz.ntmps3
      go_wp2_with first
        | (go_at_call 4; (with_reducible refine HL2.out.mono ?_); rintro e1 w1 ⟨hb1, A, cq, rfl, -⟩
           have K1 := Lib.hid (HK0.out.trans (hb1.mono HK0.out.size))
           have p1_ := HB0.out.call hb1
           have p0 := p1_.cell 0
           have p1 := p1_.cell 1
           have p2 := p1_.cell 2
           have p3 := p1_.cell 3
           have p4 := p1_.cell 4
           have p5 := p1_.cell 5
           have p6 := p1_.cell 6
           have p7 := p1_.cell 7
           have p8 := p1_.cell 8
           have p9 := p1_.cell 9
           have p10 := p1_.cell 10
           have p11 := p1_.cell 11
           have p12 := p1_.cell 12
           have p13 := p1_.cell 13
           have p14 := p1_.cell 14
           simp at p0 p1 p2 p3 p4 p5 p6 p7 p8 p9 p10 p11 p12 p13 p14
           have hlt1 := p1_.lt
           clear p1_ hb1)
        | (go_at_call 5; (with_reducible refine (HFI2.out _ K1.out).mono ?_); rintro e3 w3 ⟨rfl, hb3⟩
           have K3 := Lib.hid (K1.out.trans (hb3.mono K1.out.size))
           clear hb3)
        | (go_at_call 6; (with_reducible refine (HH.out _ K3.out).mono ?_); rintro e2 w2 ⟨rfl, hb2⟩)
      go_ret
      exact ⟨rfl, K3.out.trans (hb2.mono K3.out.size)⟩
    | true =>
      rw [hff] at HFI2
      obtain ⟨q, hq⟩ : ∃ q, fitsB g.vars e q = true := by
        unfold FitsB at hff
        rw [hve] at hff
        simp only [Bool.true_and, Bool.or_eq_true] at hff
        rcases hff with (h | h) | h
        · exact ⟨1, h⟩
        · exact ⟨2, h⟩
        · exact ⟨3, h⟩
      obtain ⟨he, -, hs32, hrun⟩ := lay_value hm hmw hst h32 hq
      have hlok := code_lok g e h32 temp he
      have hcl := (code_len g.env e temp 0).1
      have hnd := valid_nodes hve
      have HC2 : Hid (∀ W, Below w.heap.size w W → Calls Tryz.prog 7 #[.agg #[.int .u8 e.kind, .int .u8 e.oper, .int .u8 e.tk, .int .i32 e.n, .int .i64 e.v, .slice e.A e.l.length e.c], .slice g.Av g.vars.length g.cv, .agg #[.slice g.s.Af g.s.fr.length g.s.cf, .slice g.s.A1 g.s.vat.length g.s.c1, .slice g.s.A2 g.s.vin.length g.s.c2, .slice g.s.A3 g.s.cat.length g.s.c3, .slice g.s.A4 g.s.cin.length g.s.c4], .int .i64 g.frame, .int .i64 temp, .string (strB g.label)] W
          (fun en w' => Below W.heap.size W w' ∧ ∃ A c, en = .returned (.tuple #[.slice A (codeE g.env e temp 0).1.length c, .int .i64 0]) ∧ w'.ownsRow W.heap.size 62 5 (.slice A (codeE g.env e temp 0).1.length c) (codeE g.env e temp 0).1.length (linesL (codeE g.env e temp 0).1))) := Lib.hid fun W hb => (HCO.out W hb).mono fun en w' h => by
        rcases h.2 with h2 | h2
        · exact absurd he h2.1
        · obtain ⟨-, A, c, h3, h4⟩ := h2
          rw [he] at *
          exact ⟨h.1, A, c, h3, h4⟩
      have hN9 : (codeE g.env e temp 0).1.length ≤ 100000 := by omega
      have HRUN : Hid (∀ (A Aw : Option Addr) (c cw : Nat) (W : World), Reads W W.heap.size 5 A (codeE g.env e temp 0).1.length (linesL (codeE g.env e temp 0).1) → Reads W W.heap.size 1 Aw s.1.length (wordsC s.1) →
          Calls Tryz.prog 8 #[.slice A (codeE g.env e temp 0).1.length c, .slice Aw s.1.length cw] W (RetV (runV (match valueE ss e with | some v => (v, false, 0) | none => (0, true, 0))) W)) := Lib.hid fun A Aw c cw W h1 h2 => by
        have h3 := wRun _ hlok A _ c (by omega) s.1 hs32 Aw _ cw rfl (by omega) W h1 h2
        rw [hrun] at h3
        exact h3
      clear hcl HCO hff hq he hs32 hrun hlok hnd hm hmw hve hm5 hst hsl1 h32
      generalize (codeE g.env e temp 0).1 = ls at *
      obtain ⟨N, hN⟩ : ∃ N, ls.length = N := ⟨_, rfl⟩
      rw [hN] at HC2 hN9 HRUN
      clear hN
      obtain ⟨M, hM⟩ : ∃ M, s.1.length = M := ⟨_, rfl⟩
      rw [hM] at HL2 HRUN hsl2
      generalize s.1 = s1 at *
      clear hM
      generalize strB g.label = SLB at *
      obtain ⟨V, hV⟩ : ∃ V, valueE ss e = V := ⟨_, rfl⟩
      rw [hV] at HRUN HVA2
      clear hV
      cases V with
      | none =>
        simp only [Option.getD_none, Option.isSome_none, runV] at HVA2 HRUN
        go_enter Tryz.func3, Tryz.ntmps3
        go_wp2_with first
          | (go_at_call 4; (with_reducible refine HL2.out.mono ?_); rintro e1 w1 ⟨hb1, Aw, cq, rfl, hrw⟩
             have K1 := Lib.hid (HK0.out.trans (hb1.mono HK0.out.size))
             have RW1 := Lib.hid hrw
             have B1 := Lib.hid (HB0.out.call hb1)
             have p1_ := B1.out
             have p0 := p1_.cell 0
             have p1 := p1_.cell 1
             have p2 := p1_.cell 2
             have p3 := p1_.cell 3
             have p4 := p1_.cell 4
             have p5 := p1_.cell 5
             have p6 := p1_.cell 6
             have p7 := p1_.cell 7
             have p8 := p1_.cell 8
             have p9 := p1_.cell 9
             have p10 := p1_.cell 10
             have p11 := p1_.cell 11
             have p12 := p1_.cell 12
             have p13 := p1_.cell 13
             have p14 := p1_.cell 14
             simp at p0 p1 p2 p3 p4 p5 p6 p7 p8 p9 p10 p11 p12 p13 p14
             have hlt1 := p1_.lt
             clear p1_ hb1 hrw)
          | (go_at_call 5; (with_reducible refine (HFI2.out _ K1.out).mono ?_); rintro e3 w3 ⟨rfl, hb3⟩
             have K3 := Lib.hid (K1.out.trans (hb3.mono K1.out.size))
             have RW3 := Lib.hid (RW1.out.call hb3)
             have B3 := Lib.hid (B1.out.call hb3)
             have p3_ := B3.out
             have q0 := p3_.cell 0
             have q1 := p3_.cell 1
             have q2 := p3_.cell 2
             have q3 := p3_.cell 3
             have q4 := p3_.cell 4
             have q5 := p3_.cell 5
             have q6 := p3_.cell 6
             have q7 := p3_.cell 7
             have q8 := p3_.cell 8
             have q9 := p3_.cell 9
             have q10 := p3_.cell 10
             have q11 := p3_.cell 11
             have q12 := p3_.cell 12
             have q13 := p3_.cell 13
             have q14 := p3_.cell 14
             simp at q0 q1 q2 q3 q4 q5 q6 q7 q8 q9 q10 q11 q12 q13 q14
             have hlt3 := p3_.lt
             clear p3_ hb3)
          | (go_at_call 7; (with_reducible refine (HC2.out _ K3.out).mono ?_); rintro e4 w4 ⟨hb4, A, cp, rfl, ho⟩
             have K4 := Lib.hid (K3.out.trans (hb4.mono K3.out.size))
             have RW4 := Lib.hid (RW3.out.call hb4)
             have B4 := Lib.hid (B3.out.call hb4)
             have RL4 := Lib.hid (Reads.of_own ho)
             clear hb4 ho)
          | (go_at_call 8; (with_reducible refine (HRUN.out A Aw cp cq _ RL4.out RW4.out).mono ?_); rintro e5 w5 ⟨rfl, hb5⟩
             have K5 := Lib.hid (K4.out.trans (hb5.mono K4.out.size))
             have p5_ := B4.out.call hb5
             have r0 := p5_.cell 0
             have r1 := p5_.cell 1
             have r2 := p5_.cell 2
             have r3 := p5_.cell 3
             have r4 := p5_.cell 4
             have r5 := p5_.cell 5
             have r6 := p5_.cell 6
             have r7 := p5_.cell 7
             have r8 := p5_.cell 8
             have r9 := p5_.cell 9
             have r10 := p5_.cell 10
             have r11 := p5_.cell 11
             have r12 := p5_.cell 12
             have r13 := p5_.cell 13
             have r14 := p5_.cell 14
             simp at r0 r1 r2 r3 r4 r5 r6 r7 r8 r9 r10 r11 r12 r13 r14
             have hlt5 := p5_.lt
             clear p5_ hb5)
          | (go_at_call 9; (with_reducible refine (HVA2.out _ K5.out).mono ?_); rintro e6 w6 ⟨rfl, hb6⟩
             have K6 := Lib.hid (K5.out.trans (hb6.mono K5.out.size))
             clear hb6)
          | (go_at_call 6; (with_reducible refine (HH.out _ K6.out).mono ?_); rintro e2 w2 ⟨rfl, hb2⟩)
        go_ret
        exact ⟨rfl, K6.out.trans (hb2.mono K6.out.size)⟩
      | some v =>
        simp only [Option.getD_some, Option.isSome_some, runV] at HVA2 HRUN
        go_enter Tryz.func3, Tryz.ntmps3
        go_wp2_with first
          | (go_at_call 4; (with_reducible refine HL2.out.mono ?_); rintro e1 w1 ⟨hb1, Aw, cq, rfl, hrw⟩
             have K1 := Lib.hid (HK0.out.trans (hb1.mono HK0.out.size))
             have RW1 := Lib.hid hrw
             have B1 := Lib.hid (HB0.out.call hb1)
             have p1_ := B1.out
             have p0 := p1_.cell 0
             have p1 := p1_.cell 1
             have p2 := p1_.cell 2
             have p3 := p1_.cell 3
             have p4 := p1_.cell 4
             have p5 := p1_.cell 5
             have p6 := p1_.cell 6
             have p7 := p1_.cell 7
             have p8 := p1_.cell 8
             have p9 := p1_.cell 9
             have p10 := p1_.cell 10
             have p11 := p1_.cell 11
             have p12 := p1_.cell 12
             have p13 := p1_.cell 13
             have p14 := p1_.cell 14
             simp at p0 p1 p2 p3 p4 p5 p6 p7 p8 p9 p10 p11 p12 p13 p14
             have hlt1 := p1_.lt
             clear p1_ hb1 hrw)
          | (go_at_call 5; (with_reducible refine (HFI2.out _ K1.out).mono ?_); rintro e3 w3 ⟨rfl, hb3⟩
             have K3 := Lib.hid (K1.out.trans (hb3.mono K1.out.size))
             have RW3 := Lib.hid (RW1.out.call hb3)
             have B3 := Lib.hid (B1.out.call hb3)
             have p3_ := B3.out
             have q0 := p3_.cell 0
             have q1 := p3_.cell 1
             have q2 := p3_.cell 2
             have q3 := p3_.cell 3
             have q4 := p3_.cell 4
             have q5 := p3_.cell 5
             have q6 := p3_.cell 6
             have q7 := p3_.cell 7
             have q8 := p3_.cell 8
             have q9 := p3_.cell 9
             have q10 := p3_.cell 10
             have q11 := p3_.cell 11
             have q12 := p3_.cell 12
             have q13 := p3_.cell 13
             have q14 := p3_.cell 14
             simp at q0 q1 q2 q3 q4 q5 q6 q7 q8 q9 q10 q11 q12 q13 q14
             have hlt3 := p3_.lt
             clear p3_ hb3)
          | (go_at_call 7; (with_reducible refine (HC2.out _ K3.out).mono ?_); rintro e4 w4 ⟨hb4, A, cp, rfl, ho⟩
             have K4 := Lib.hid (K3.out.trans (hb4.mono K3.out.size))
             have RW4 := Lib.hid (RW3.out.call hb4)
             have B4 := Lib.hid (B3.out.call hb4)
             have RL4 := Lib.hid (Reads.of_own ho)
             clear hb4 ho)
          | (go_at_call 8; (with_reducible refine (HRUN.out A Aw cp cq _ RL4.out RW4.out).mono ?_); rintro e5 w5 ⟨rfl, hb5⟩
             have K5 := Lib.hid (K4.out.trans (hb5.mono K4.out.size))
             have p5_ := B4.out.call hb5
             have r0 := p5_.cell 0
             have r1 := p5_.cell 1
             have r2 := p5_.cell 2
             have r3 := p5_.cell 3
             have r4 := p5_.cell 4
             have r5 := p5_.cell 5
             have r6 := p5_.cell 6
             have r7 := p5_.cell 7
             have r8 := p5_.cell 8
             have r9 := p5_.cell 9
             have r10 := p5_.cell 10
             have r11 := p5_.cell 11
             have r12 := p5_.cell 12
             have r13 := p5_.cell 13
             have r14 := p5_.cell 14
             simp at r0 r1 r2 r3 r4 r5 r6 r7 r8 r9 r10 r11 r12 r13 r14
             have hlt5 := p5_.lt
             clear p5_ hb5)
          | (go_at_call 9; (with_reducible refine (HVA2.out _ K5.out).mono ?_); rintro e6 w6 ⟨rfl, hb6⟩
             have K6 := Lib.hid (K5.out.trans (hb6.mono K5.out.size))
             clear hb6)
          | (go_at_call 6; (with_reducible refine (HH.out _ K6.out).mono ?_); rintro e2 w2 ⟨rfl, hb2⟩)
        go_ret
        exact ⟨rfl, K6.out.trans (hb2.mono K6.out.size)⟩
end Go.Proofs.YtbefmlioampgcaaGreatDoor
