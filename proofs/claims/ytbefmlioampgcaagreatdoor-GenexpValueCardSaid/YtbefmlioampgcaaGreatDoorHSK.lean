/- The law's lay, walked. -/
import Derived.Test.YtbefmlioampgcaaGreatDoorHK29
namespace Go.Proofs.YtbefmlioampgcaaGreatDoor
open Go.RowKit
set_option linter.unusedVariables false
set_option linter.unusedSimpArgs false

/-- The words that lay answers, and whose they are. -/
def layR (g : EmL) (e : KE) (temp : Int) (ss : List RwL) (fill : Int) : Option Wo := match layN g e temp ss with
  | none => none
  | some n => layW g e temp ss fill n
def RetLay (o : Option Wo) (w : World) (en : Ending) (w' : World) : Prop :=
  Below w.heap.size w w' ∧ ((o = none ∧ ∃ A n c, en = .returned (.tuple #[.slice A n c, .bool false])) ∨
    (∃ s A c, o = some s ∧ en = .returned (.tuple #[.slice A s.1.length c, .bool true]) ∧ Reads w' w'.heap.size 1 A s.1.length (wordsC s.1)))
theorem layR_1 {g : EmL} {e : KE} {temp : Int} {ss : List RwL} (fill : Int) (h : greatG g = true) : layR g e temp ss fill = none := by
  unfold layR layN; rw [if_pos h]
theorem layR_2 {g : EmL} {e : KE} {temp : Int} {ss : List RwL} (fill : Int) (h : validC g e temp = false) : layR g e temp ss fill = none := by
  unfold layR layN; split <;> first | rfl | (rename_i hh; split at hh <;> first | cases hh | (rw [if_pos h] at hh; cases hh))
theorem layR_3 {g : EmL} {e : KE} {temp : Int} {ss : List RwL} (fill : Int) (h : allE (liesB g) e = false) : layR g e temp ss fill = none := by
  unfold layR
  cases hn : layN g e temp ss with
  | none => rfl
  | some n => have := (layN_some hn).2.2.1; rw [h] at this; cases this
theorem layR_4 {g : EmL} {e : KE} {temp : Int} {ss : List RwL} (fill : Int) (h : storeB g.vars ss = false) : layR g e temp ss fill = none := by
  unfold layR
  cases hn : layN g e temp ss with
  | none => rfl
  | some n => have := (layN_some hn).2.2.2.1; rw [h] at this; cases this
theorem layR_5 {g : EmL} {e : KE} {temp : Int} {ss : List RwL} (fill : Int) (h : offsE g temp e = none) : layR g e temp ss fill = none := by
  unfold layR
  cases hn : layN g e temp ss with
  | none => rfl
  | some n => have := (layN_some hn).2.2.2.2.1; rw [h] at this; cases this
theorem layR_6 {g : EmL} {e : KE} {temp : Int} {ss : List RwL} (fill : Int) {m : Int} (h : offsE g temp e = some m) (hm : 5000 < m) : layR g e temp ss fill = none := by
  unfold layR
  cases hn : layN g e temp ss with
  | none => rfl
  | some n =>
    have h1 := (layN_some hn).2.2.2.2
    rw [h] at h1
    have := Option.some.inj h1.1
    omega
theorem layR_7 {g : EmL} {e : KE} {temp : Int} {ss : List RwL} (fill : Int) {m : Int} (h1 : greatG g = false) (h2 : validC g e temp = true) (h3 : allE (liesB g) e = true) (h4 : storeB g.vars ss = true) (h : offsE g temp e = some m) (hm : ¬ 5000 < m) :
    layR g e temp ss fill = layW g e temp ss fill m := by
  unfold layR layN
  rw [if_neg (by rw [h1]; decide), if_neg (by rw [h2]; decide), if_neg (by rw [h3]; decide), if_neg (by rw [h4]; decide), h]
  simp only [if_neg hm]
theorem offsE_temps {g : EmL} {e : KE} {t n : Int} (h : offsE g t e = some n) : t + tempsV e ≤ n := by
  obtain ⟨m, hm, hmn⟩ := (KE.all_iff.1 (offsE_all e h)).1
  have := offs0_le hm
  omega
set_option maxRecDepth 100000 in
set_option maxHeartbeats 8000000 in
theorem lLay (g : EmL) (e : KE) (temp : Int) (ss : List RwL) (As : Option Addr) (cs : Nat) (fill : Int) (hfi : is32 fill) (B : Nat) (w : World) (hi : e.In w B) (hn : EnvIn0 g w B) (hti : i64ok temp) (hsi : rwsIn w B As ss) (hB : B ≤ w.heap.size) :
    Calls Tryz.prog 4 #[.agg (caseC g e temp), .slice As ss.length cs, .int .i32 fill] w (RetLay (layR g e temp ss fill) w) := by
  obtain ⟨W0, hW0⟩ : ∃ W, w.alloc (.cells (caseC g e temp) 34) = W := ⟨_, rfl⟩
  have K0 : Below w.heap.size w W0 := by rw [← hW0]; exact (Below.refl _ _).alloc (Nat.le_refl _) _
  have b0 : Blk W0 w.heap.size 34 (caseC g e temp) := by rw [← hW0]; exact Blk.new _ _ _
  have hi0 := hi.below (K0.mono hB)
  have hs0 := hsi.below (K0.mono hB)
  have hBW : B ≤ W0.heap.size := Nat.le_trans hB K0.size
  have hv0 : VarsIn g W0 B := VarsIn.below (g := g) hn.2.1 (K0.mono hB)
  have hsp0 := hn.1.below (K0.mono hB)
  have HGR := Lib.hid (lGreat25 g e temp W0 hn.2.1.1 hn.1.1.1 hn.1.2.1.1 hn.1.2.2.1.1 hn.1.2.2.2.1.1 hn.1.2.2.2.2.1)
  have HVA : Hid (∀ W, Below W0.heap.size W0 W → Calls Tryz.prog 11 #[.agg e.cells, .slice g.Av g.vars.length g.cv, .int .i64 temp, .string (strB g.label)] W (RetV (.bool (validC g e temp)) W)) := Lib.hid fun W hb =>
    rValid25 g e temp B W (hi0.below (hb.mono hBW)) (hv0.below (hb.mono hBW)) hn.2.2.2 hti (Nat.le_trans hBW hb.size)
  have HLI : Hid (∀ W, Below W0.heap.size W0 W → Calls Tryz.prog 12 #[.agg e.cells, .agg g.s.cells, .int .i64 g.frame] W (RetV (.bool (allE (liesB g) e)) W)) := Lib.hid fun W hb =>
    rLies g hn.2.2.1 e B W (hi0.below (hb.mono hBW)) (hsp0.below (hb.mono hBW)) (Nat.le_trans hBW hb.size)
  have HST : Hid (∀ W, Below W0.heap.size W0 W → Calls Tryz.prog 13 #[.slice g.Av g.vars.length g.cv, .slice As ss.length cs] W (RetV (.bool (storeB g.vars ss)) W)) := Lib.hid fun W hb =>
    rStores25 g ss As cs B W (hv0.below (hb.mono hBW)) (hs0.below (hb.mono hBW)) (Nat.le_trans hBW hb.size)
  have HOF : Hid (validC g e temp = true → ∀ W, Below W0.heap.size W0 W → Calls Tryz.prog 14 #[.agg e.cells, .slice g.Av g.vars.length g.cv, .agg g.s.cells, .int .i64 g.frame, .int .i64 temp] W (RetV (offsV (offsE g temp e)) W)) := Lib.hid fun hvc W hb => by
    have hve := validC_e hvc
    unfold validC at hvc
    simp only [Bool.and_eq_true] at hvc
    refine rOffsets25 g temp ⟨hve.2.1, hve.2.2.1⟩ hn.2.2.1 ?_ e (validE_all hve.1) hvc.2 B W (hi0.below (hb.mono hBW)) (hsp0.below (hb.mono hBW)) (hv0.below (hb.mono hBW)) (Nat.le_trans hBW hb.size)
    intro x hx
    have := List.all_eq_true.1 hvc.1.2 x hx
    exact of_decide_eq_true this
  have HTM : Hid (∀ W, Below W0.heap.size W0 W → Calls Tryz.prog 15 #[.agg e.cells] W (RetV (.int .i64 (tempsV e)) W)) := Lib.hid fun W hb =>
    rTemps22 e B W (hi0.below (hb.mono hBW)) (Nat.le_trans hBW hb.size)
  have HMK : Hid (validC g e temp = true → storeB g.vars ss = true → ∀ (m : Int), offsE g temp e = some m → m ≤ 5000 → ∀ (gw : Nat) (s : Wo) (W : World), Below W0.heap.size W0 W → W0.heap.size ≤ gw → gw + 1 < W.heap.size → WoAt W gw (gw + 1) (some ⟨gw, 0, none⟩) (some ⟨gw + 1, 0, none⟩) m.toNat s →
      Calls Tryz.prog 16 #[.agg e.cells, .agg (caseC g e temp), .slice As ss.length cs, .slice (some ⟨gw, 0, none⟩) m.toNat m.toNat, .slice (some ⟨gw + 1, 0, none⟩) m.toNat m.toNat] W (RetMark (markE g ss e s) gw (gw + 1) (some ⟨gw, 0, none⟩) (some ⟨gw + 1, 0, none⟩) m.toNat W)) := Lib.hid fun hvc hst m ho hm gw s W hb hg1 hg2 hwo => by
    have hve := validC_e hvc
    unfold validC at hvc
    simp only [Bool.and_eq_true] at hvc
    exact lMark g ss As cs e temp gw (gw + 1) (by omega) (some ⟨gw, 0, none⟩) (some ⟨gw + 1, 0, none⟩) m.toNat m.toNat m.toNat (by omega) hn.2.2.1 e (mark_ok (validE_all hve.1) hvc.2 hst ho) s B W (hi0.below (hb.mono hBW)) (hsp0.below (hb.mono hBW)) (hs0.below (hb.mono hBW)) (by omega) (by omega) (by omega) (by omega) (Nat.le_trans hBW hb.size) hwo
  have HK0 := Lib.hid K0
  have HB0 := Lib.hid b0
  have H1 := Lib.hid (layR_1 (g := g) (e := e) (temp := temp) (ss := ss) fill)
  have H2 := Lib.hid (layR_2 (g := g) (e := e) (temp := temp) (ss := ss) fill)
  have H3 := Lib.hid (layR_3 (g := g) (e := e) (temp := temp) (ss := ss) fill)
  have H4 := Lib.hid (layR_4 (g := g) (e := e) (temp := temp) (ss := ss) fill)
  have H5 := Lib.hid (layR_5 (g := g) (e := e) (temp := temp) (ss := ss) fill)
  have H6 := Lib.hid (fun m => layR_6 (g := g) (e := e) (temp := temp) (ss := ss) fill (m := m))
  have H7 := Lib.hid (fun m => layR_7 (g := g) (e := e) (temp := temp) (ss := ss) fill (m := m))
  have HOT := Lib.hid (fun n => offsE_temps (g := g) (e := e) (t := temp) (n := n))
  have HVE := Lib.hid (fun h => validC_e (g := g) (e := e) (temp := temp) h)
  have htv := tempsV_le e
  have hsl : lenOk ss := hsi.1
  unfold lenOk at hsl
  simp only [caseC] at b0 hW0 HGR HB0 HMK ⊢
  simp only [KE.cells] at HVA HLI HOF HTM HMK
  simp only [SpL.cells] at HLI HOF
  unfold offsV at HOF
  have c0 := b0.cell 0
  have c1 := b0.cell 1
  have c2 := b0.cell 2
  have c3 := b0.cell 3
  have c4 := b0.cell 4
  have c5 := b0.cell 5
  have c6 := b0.cell 6
  have c7 := b0.cell 7
  have c8 := b0.cell 8
  have c9 := b0.cell 9
  have c10 := b0.cell 10
  have c11 := b0.cell 11
  have c12 := b0.cell 12
  have c13 := b0.cell 13
  have c14 := b0.cell 14
  simp at c0 c1 c2 c3 c4 c5 c6 c7 c8 c9 c10 c11 c12 c13 c14
  have hlt := b0.lt
  obtain ⟨R, hR⟩ : ∃ R, layR g e temp ss fill = R := ⟨_, rfl⟩
  rw [hR] at H1 H2 H3 H4 H5 H6 H7 ⊢
  have hW0s : W0.heap.size = w.heap.size + 1 := by rw [← hW0]; simp
  have HW0s := Lib.hid hW0s
  clear hi hn hsi hB b0 hi0 hs0 hBW hv0 hsp0 K0 hR hW0s
  generalize hGR : greatG g = GR at *
  generalize hVC : validC g e temp = VC at *
  generalize hLI : allE (liesB g) e = LI at *
  generalize hST : storeB g.vars ss = ST at *
  generalize hOO : offsE g temp e = OO at *
  generalize strB g.label = SLB at *
  clear hGR hVC hLI hST hOO
  cases GR with
  | true =>
    obtain rfl := H1.out (by first | trivial | rfl)
    clear H1 H2 H3 H4 H5 H6 H7 HVA HLI HST HOF HMK HTM HOT HVE
    go_enter Tryz.func4, Tryz.ntmps4
    go_wp2_with first
      | (go_at_call 10; (with_reducible refine HGR.out.mono ?_); rintro e1 w1 ⟨rfl, hb1⟩)
    go_ret2
    exact ⟨HK0.out.trans (hb1.mono HK0.out.size), .inl ⟨rfl, _, _, _, rfl⟩⟩
  | false =>
  cases VC with
  | false =>
    obtain rfl := H2.out (by first | trivial | rfl)
    clear H1 H2 H3 H4 H5 H6 H7 HLI HST HOF HMK HTM HOT HVE
    go_enter Tryz.func4, Tryz.ntmps4
    go_wp2_with first
      | (go_at_call 10; (with_reducible refine HGR.out.mono ?_); rintro e1 w1 ⟨rfl, hb1⟩
         have K1 := Lib.hid hb1
         have p1_ := HB0.out.call hb1
         have p0 := p1_.cell 0
         have p1 := p1_.cell 1
         have p2 := p1_.cell 2
         have p3 := p1_.cell 3
         have p4 := p1_.cell 4
         have p5 := p1_.cell 5
         have p6 := p1_.cell 6
         have p7 := p1_.cell 7
         have p8 := p1_.cell 8
         have p9 := p1_.cell 9
         have p10 := p1_.cell 10
         have p11 := p1_.cell 11
         have p12 := p1_.cell 12
         have p13 := p1_.cell 13
         have p14 := p1_.cell 14
         simp at p0 p1 p2 p3 p4 p5 p6 p7 p8 p9 p10 p11 p12 p13 p14
         have hlt1 := p1_.lt
         clear p1_ hb1)
      | (go_at_call 11; (with_reducible refine (HVA.out _ K1.out).mono ?_); rintro e2 w2 ⟨rfl, hb2⟩)
    go_ret2
    exact ⟨HK0.out.trans ((K1.out.trans (hb2.mono K1.out.size)).mono HK0.out.size), .inl ⟨rfl, _, _, _, rfl⟩⟩
  | true =>
  cases LI with
  | false =>
    obtain rfl := H3.out (by first | trivial | rfl)
    clear H1 H2 H3 H4 H5 H6 H7 HST HOF HMK HTM HOT HVE
    go_enter Tryz.func4, Tryz.ntmps4
    go_wp2_with first
      | (go_at_call 10; (with_reducible refine HGR.out.mono ?_); rintro e1 w1 ⟨rfl, hb1⟩
         have K1 := Lib.hid hb1
         have p1_ := HB0.out.call hb1
         have p0 := p1_.cell 0
         have p1 := p1_.cell 1
         have p2 := p1_.cell 2
         have p3 := p1_.cell 3
         have p4 := p1_.cell 4
         have p5 := p1_.cell 5
         have p6 := p1_.cell 6
         have p7 := p1_.cell 7
         have p8 := p1_.cell 8
         have p9 := p1_.cell 9
         have p10 := p1_.cell 10
         have p11 := p1_.cell 11
         have p12 := p1_.cell 12
         have p13 := p1_.cell 13
         have p14 := p1_.cell 14
         simp at p0 p1 p2 p3 p4 p5 p6 p7 p8 p9 p10 p11 p12 p13 p14
         have hlt1 := p1_.lt
         clear p1_ hb1)
      | (go_at_call 11; (with_reducible refine (HVA.out _ K1.out).mono ?_); rintro e2 w2 ⟨rfl, hb2⟩
         have K2 := Lib.hid (K1.out.trans (hb2.mono K1.out.size))
         have p2_ := HB0.out.call K2.out
         have q0 := p2_.cell 0
         have q1 := p2_.cell 1
         have q2 := p2_.cell 2
         have q3 := p2_.cell 3
         have q4 := p2_.cell 4
         have q5 := p2_.cell 5
         have q6 := p2_.cell 6
         have q7 := p2_.cell 7
         have q8 := p2_.cell 8
         have q9 := p2_.cell 9
         have q10 := p2_.cell 10
         have q11 := p2_.cell 11
         have q12 := p2_.cell 12
         have q13 := p2_.cell 13
         have q14 := p2_.cell 14
         simp at q0 q1 q2 q3 q4 q5 q6 q7 q8 q9 q10 q11 q12 q13 q14
         have hlt2 := p2_.lt
         clear p2_ hb2)
      | (go_at_call 12; (with_reducible refine (HLI.out _ K2.out).mono ?_); rintro e3 w3 ⟨rfl, hb3⟩)
    go_ret2
    exact ⟨HK0.out.trans ((K2.out.trans (hb3.mono K2.out.size)).mono HK0.out.size), .inl ⟨rfl, _, _, _, rfl⟩⟩
  | true =>
  cases ST with
  | false =>
    obtain rfl := H4.out (by first | trivial | rfl)
    clear H1 H2 H3 H4 H5 H6 H7 HOF HMK HTM HOT HVE
    go_enter Tryz.func4, Tryz.ntmps4
    go_wp2_with first
      | (go_at_call 10; (with_reducible refine HGR.out.mono ?_); rintro e1 w1 ⟨rfl, hb1⟩
         have K1 := Lib.hid hb1
         have p1_ := HB0.out.call hb1
         have p0 := p1_.cell 0
         have p1 := p1_.cell 1
         have p2 := p1_.cell 2
         have p3 := p1_.cell 3
         have p4 := p1_.cell 4
         have p5 := p1_.cell 5
         have p6 := p1_.cell 6
         have p7 := p1_.cell 7
         have p8 := p1_.cell 8
         have p9 := p1_.cell 9
         have p10 := p1_.cell 10
         have p11 := p1_.cell 11
         have p12 := p1_.cell 12
         have p13 := p1_.cell 13
         have p14 := p1_.cell 14
         simp at p0 p1 p2 p3 p4 p5 p6 p7 p8 p9 p10 p11 p12 p13 p14
         have hlt1 := p1_.lt
         clear p1_ hb1)
      | (go_at_call 11; (with_reducible refine (HVA.out _ K1.out).mono ?_); rintro e2 w2 ⟨rfl, hb2⟩
         have K2 := Lib.hid (K1.out.trans (hb2.mono K1.out.size))
         have p2_ := HB0.out.call K2.out
         have q0 := p2_.cell 0
         have q1 := p2_.cell 1
         have q2 := p2_.cell 2
         have q3 := p2_.cell 3
         have q4 := p2_.cell 4
         have q5 := p2_.cell 5
         have q6 := p2_.cell 6
         have q7 := p2_.cell 7
         have q8 := p2_.cell 8
         have q9 := p2_.cell 9
         have q10 := p2_.cell 10
         have q11 := p2_.cell 11
         have q12 := p2_.cell 12
         have q13 := p2_.cell 13
         have q14 := p2_.cell 14
         simp at q0 q1 q2 q3 q4 q5 q6 q7 q8 q9 q10 q11 q12 q13 q14
         have hlt2 := p2_.lt
         clear p2_ hb2)
      | (go_at_call 12; (with_reducible refine (HLI.out _ K2.out).mono ?_); rintro e3 w3 ⟨rfl, hb3⟩
         have K3 := Lib.hid (K2.out.trans (hb3.mono K2.out.size))
         have p3_ := HB0.out.call K3.out
         have r0 := p3_.cell 0
         have r1 := p3_.cell 1
         have r2 := p3_.cell 2
         have r3 := p3_.cell 3
         have r4 := p3_.cell 4
         have r5 := p3_.cell 5
         have r6 := p3_.cell 6
         have r7 := p3_.cell 7
         have r8 := p3_.cell 8
         have r9 := p3_.cell 9
         have r10 := p3_.cell 10
         have r11 := p3_.cell 11
         have r12 := p3_.cell 12
         have r13 := p3_.cell 13
         have r14 := p3_.cell 14
         simp at r0 r1 r2 r3 r4 r5 r6 r7 r8 r9 r10 r11 r12 r13 r14
         have hlt3 := p3_.lt
         clear p3_ hb3)
      | (go_at_call 13; (with_reducible refine (HST.out _ K3.out).mono ?_); rintro e4 w4 ⟨rfl, hb4⟩)
    go_ret2
    exact ⟨HK0.out.trans ((K3.out.trans (hb4.mono K3.out.size)).mono HK0.out.size), .inl ⟨rfl, _, _, _, rfl⟩⟩
  | true =>
    cases OO with
    | none =>
      obtain rfl := H5.out (by first | trivial | rfl)
      have HOF2 : Hid (∀ W, Below W0.heap.size W0 W → Calls Tryz.prog 14 #[.agg #[.int .u8 e.kind, .int .u8 e.oper, .int .u8 e.tk, .int .i32 e.n, .int .i64 e.v, .slice e.A e.l.length e.c], .slice g.Av g.vars.length g.cv, .agg #[.slice g.s.Af g.s.fr.length g.s.cf, .slice g.s.A1 g.s.vat.length g.s.c1, .slice g.s.A2 g.s.vin.length g.s.c2, .slice g.s.A3 g.s.cat.length g.s.c3, .slice g.s.A4 g.s.cin.length g.s.c4], .int .i64 g.frame, .int .i64 temp] W (RetV (.tuple #[.int .i64 0, .bool false]) W)) := Lib.hid fun W hb => HOF.out (by first | trivial | rfl) W hb
      clear H1 H2 H3 H4 H5 H6 H7 HOF HMK HTM HOT HVE
      go_enter Tryz.func4, Tryz.ntmps4
      go_wp2_with first
        | (go_at_call 10; (with_reducible refine HGR.out.mono ?_); rintro e1 w1 ⟨rfl, hb1⟩
           have K1 := Lib.hid hb1
           have p1_ := HB0.out.call hb1
           have p0 := p1_.cell 0
           have p1 := p1_.cell 1
           have p2 := p1_.cell 2
           have p3 := p1_.cell 3
           have p4 := p1_.cell 4
           have p5 := p1_.cell 5
           have p6 := p1_.cell 6
           have p7 := p1_.cell 7
           have p8 := p1_.cell 8
           have p9 := p1_.cell 9
           have p10 := p1_.cell 10
           have p11 := p1_.cell 11
           have p12 := p1_.cell 12
           have p13 := p1_.cell 13
           have p14 := p1_.cell 14
           simp at p0 p1 p2 p3 p4 p5 p6 p7 p8 p9 p10 p11 p12 p13 p14
           have hlt1 := p1_.lt
           clear p1_ hb1)
        | (go_at_call 11; (with_reducible refine (HVA.out _ K1.out).mono ?_); rintro e2 w2 ⟨rfl, hb2⟩
           have K2 := Lib.hid (K1.out.trans (hb2.mono K1.out.size))
           have p2_ := HB0.out.call K2.out
           have q0 := p2_.cell 0
           have q1 := p2_.cell 1
           have q2 := p2_.cell 2
           have q3 := p2_.cell 3
           have q4 := p2_.cell 4
           have q5 := p2_.cell 5
           have q6 := p2_.cell 6
           have q7 := p2_.cell 7
           have q8 := p2_.cell 8
           have q9 := p2_.cell 9
           have q10 := p2_.cell 10
           have q11 := p2_.cell 11
           have q12 := p2_.cell 12
           have q13 := p2_.cell 13
           have q14 := p2_.cell 14
           simp at q0 q1 q2 q3 q4 q5 q6 q7 q8 q9 q10 q11 q12 q13 q14
           have hlt2 := p2_.lt
           clear p2_ hb2)
        | (go_at_call 12; (with_reducible refine (HLI.out _ K2.out).mono ?_); rintro e3 w3 ⟨rfl, hb3⟩
           have K3 := Lib.hid (K2.out.trans (hb3.mono K2.out.size))
           have p3_ := HB0.out.call K3.out
           have r0 := p3_.cell 0
           have r1 := p3_.cell 1
           have r2 := p3_.cell 2
           have r3 := p3_.cell 3
           have r4 := p3_.cell 4
           have r5 := p3_.cell 5
           have r6 := p3_.cell 6
           have r7 := p3_.cell 7
           have r8 := p3_.cell 8
           have r9 := p3_.cell 9
           have r10 := p3_.cell 10
           have r11 := p3_.cell 11
           have r12 := p3_.cell 12
           have r13 := p3_.cell 13
           have r14 := p3_.cell 14
           simp at r0 r1 r2 r3 r4 r5 r6 r7 r8 r9 r10 r11 r12 r13 r14
           have hlt3 := p3_.lt
           clear p3_ hb3)
        | (go_at_call 13; (with_reducible refine (HST.out _ K3.out).mono ?_); rintro e4 w4 ⟨rfl, hb4⟩
           have K4 := Lib.hid (K3.out.trans (hb4.mono K3.out.size))
           have p4_ := HB0.out.call K4.out
           have s0 := p4_.cell 0
           have s1 := p4_.cell 1
           have s2 := p4_.cell 2
           have s3 := p4_.cell 3
           have s4 := p4_.cell 4
           have s5 := p4_.cell 5
           have s6 := p4_.cell 6
           have s7 := p4_.cell 7
           have s8 := p4_.cell 8
           have s9 := p4_.cell 9
           have s10 := p4_.cell 10
           have s11 := p4_.cell 11
           have s12 := p4_.cell 12
           have s13 := p4_.cell 13
           have s14 := p4_.cell 14
           simp at s0 s1 s2 s3 s4 s5 s6 s7 s8 s9 s10 s11 s12 s13 s14
           have hlt4 := p4_.lt
           clear p4_ hb4)
        | (go_at_call 14; (with_reducible refine (HOF2.out _ K4.out).mono ?_); rintro e5 w5 ⟨rfl, hb5⟩
           have K5 := Lib.hid (K4.out.trans (hb5.mono K4.out.size))
           clear hb5)
      go_ret2
      exact ⟨HK0.out.trans (K5.out.mono HK0.out.size), .inl ⟨rfl, _, _, _, rfl⟩⟩
    | some m =>
      have HOF2 : Hid (∀ W, Below W0.heap.size W0 W → Calls Tryz.prog 14 #[.agg #[.int .u8 e.kind, .int .u8 e.oper, .int .u8 e.tk, .int .i32 e.n, .int .i64 e.v, .slice e.A e.l.length e.c], .slice g.Av g.vars.length g.cv, .agg #[.slice g.s.Af g.s.fr.length g.s.cf, .slice g.s.A1 g.s.vat.length g.s.c1, .slice g.s.A2 g.s.vin.length g.s.c2, .slice g.s.A3 g.s.cat.length g.s.c3, .slice g.s.A4 g.s.cin.length g.s.c4], .int .i64 g.frame, .int .i64 temp] W (RetV (.tuple #[.int .i64 m, .bool true]) W)) := Lib.hid fun W hb => HOF.out (by first | trivial | rfl) W hb
      by_cases hm : 5000 < m
      · obtain rfl := H6.out m (by first | trivial | rfl) hm
        clear H1 H2 H3 H4 H5 H6 H7 HOF HMK HTM HOT HVE
        go_enter Tryz.func4, Tryz.ntmps4
        go_wp2_with first
          | (go_at_call 10; (with_reducible refine HGR.out.mono ?_); rintro e1 w1 ⟨rfl, hb1⟩
             have K1 := Lib.hid hb1
             have p1_ := HB0.out.call hb1
             have p0 := p1_.cell 0
             have p1 := p1_.cell 1
             have p2 := p1_.cell 2
             have p3 := p1_.cell 3
             have p4 := p1_.cell 4
             have p5 := p1_.cell 5
             have p6 := p1_.cell 6
             have p7 := p1_.cell 7
             have p8 := p1_.cell 8
             have p9 := p1_.cell 9
             have p10 := p1_.cell 10
             have p11 := p1_.cell 11
             have p12 := p1_.cell 12
             have p13 := p1_.cell 13
             have p14 := p1_.cell 14
             simp at p0 p1 p2 p3 p4 p5 p6 p7 p8 p9 p10 p11 p12 p13 p14
             have hlt1 := p1_.lt
             clear p1_ hb1)
          | (go_at_call 11; (with_reducible refine (HVA.out _ K1.out).mono ?_); rintro e2 w2 ⟨rfl, hb2⟩
             have K2 := Lib.hid (K1.out.trans (hb2.mono K1.out.size))
             have p2_ := HB0.out.call K2.out
             have q0 := p2_.cell 0
             have q1 := p2_.cell 1
             have q2 := p2_.cell 2
             have q3 := p2_.cell 3
             have q4 := p2_.cell 4
             have q5 := p2_.cell 5
             have q6 := p2_.cell 6
             have q7 := p2_.cell 7
             have q8 := p2_.cell 8
             have q9 := p2_.cell 9
             have q10 := p2_.cell 10
             have q11 := p2_.cell 11
             have q12 := p2_.cell 12
             have q13 := p2_.cell 13
             have q14 := p2_.cell 14
             simp at q0 q1 q2 q3 q4 q5 q6 q7 q8 q9 q10 q11 q12 q13 q14
             have hlt2 := p2_.lt
             clear p2_ hb2)
          | (go_at_call 12; (with_reducible refine (HLI.out _ K2.out).mono ?_); rintro e3 w3 ⟨rfl, hb3⟩
             have K3 := Lib.hid (K2.out.trans (hb3.mono K2.out.size))
             have p3_ := HB0.out.call K3.out
             have r0 := p3_.cell 0
             have r1 := p3_.cell 1
             have r2 := p3_.cell 2
             have r3 := p3_.cell 3
             have r4 := p3_.cell 4
             have r5 := p3_.cell 5
             have r6 := p3_.cell 6
             have r7 := p3_.cell 7
             have r8 := p3_.cell 8
             have r9 := p3_.cell 9
             have r10 := p3_.cell 10
             have r11 := p3_.cell 11
             have r12 := p3_.cell 12
             have r13 := p3_.cell 13
             have r14 := p3_.cell 14
             simp at r0 r1 r2 r3 r4 r5 r6 r7 r8 r9 r10 r11 r12 r13 r14
             have hlt3 := p3_.lt
             clear p3_ hb3)
          | (go_at_call 13; (with_reducible refine (HST.out _ K3.out).mono ?_); rintro e4 w4 ⟨rfl, hb4⟩
             have K4 := Lib.hid (K3.out.trans (hb4.mono K3.out.size))
             have p4_ := HB0.out.call K4.out
             have s0 := p4_.cell 0
             have s1 := p4_.cell 1
             have s2 := p4_.cell 2
             have s3 := p4_.cell 3
             have s4 := p4_.cell 4
             have s5 := p4_.cell 5
             have s6 := p4_.cell 6
             have s7 := p4_.cell 7
             have s8 := p4_.cell 8
             have s9 := p4_.cell 9
             have s10 := p4_.cell 10
             have s11 := p4_.cell 11
             have s12 := p4_.cell 12
             have s13 := p4_.cell 13
             have s14 := p4_.cell 14
             simp at s0 s1 s2 s3 s4 s5 s6 s7 s8 s9 s10 s11 s12 s13 s14
             have hlt4 := p4_.lt
             clear p4_ hb4)
          | (go_at_call 14; (with_reducible refine (HOF2.out _ K4.out).mono ?_); rintro e5 w5 ⟨rfl, hb5⟩
             have K5 := Lib.hid (K4.out.trans (hb5.mono K4.out.size))
             clear hb5)
        go_ret2
        exact ⟨HK0.out.trans (K5.out.mono HK0.out.size), .inl ⟨rfl, _, _, _, rfl⟩⟩
      · have hve := HVE.out (by first | trivial | rfl)
        have hmt := HOT.out m (by first | trivial | rfl)
        have ht0 := hve.2.1
        have HR : Hid (R = layW g e temp ss fill m) := Lib.hid (H7.out m (by first | trivial | rfl) (by first | trivial | rfl) (by first | trivial | rfl) (by first | trivial | rfl) (by first | trivial | rfl) hm)
        have HMK2 := Lib.hid (HMK.out (by first | trivial | rfl) (by first | trivial | rfl) m (by first | trivial | rfl) (by omega))
        clear H1 H2 H3 H4 H5 H6 H7 HOF HMK HOT HVE hve
        obtain ⟨N, rfl⟩ : ∃ N : Nat, m = N := ⟨m.toNat, by omega⟩
        obtain ⟨TV, hTV⟩ : ∃ k : Nat, tempsV e = k := ⟨_, rfl⟩
        have HTVE := Lib.hid hTV
        rw [hTV] at HTM hmt htv
        clear hTV
        have hNI : (N : Int) ≤ 5000 := by omega
        have hN5 : N ≤ 5000 := by omega
        have hNm : ¬ (5000 : Int) < N := by omega
        simp only [Int.toNat_natCast] at HMK2
        obtain ⟨i1, hi1, hz1, hz11, hz12⟩ := info_parts i32_info
        have hmk1 := run_make_rowN (P := Tryz.prog) 36 21 i1 _ Tryz.underlying36 hi1 hz1 .i64 .i64 N N (Nat.le_refl _) (by rw [hz12]; omega) (by omega)
        rw [hz11, Nat.mul_one, made_words] at hmk1
        obtain ⟨i2, hi2, hz2, hz21, hz22⟩ := info_parts i64_info
        have hmk2 := run_make_rowN (P := Tryz.prog) 30 3 i2 _ Tryz.underlying30 hi2 hz2 .i64 .i64 N N (Nat.le_refl _) (by rw [hz22]; omega) (by omega)
        rw [hz21, Nat.mul_one, made_ints64] at hmk2
        go_enter Tryz.func4, Tryz.ntmps4
        go_wp2_with first
          | (go_at_call 10; (with_reducible refine HGR.out.mono ?_); rintro e1 w1 ⟨rfl, hb1⟩
             have K1 := Lib.hid hb1
             have p1_ := HB0.out.call hb1
             have p0 := p1_.cell 0
             have p1 := p1_.cell 1
             have p2 := p1_.cell 2
             have p3 := p1_.cell 3
             have p4 := p1_.cell 4
             have p5 := p1_.cell 5
             have p6 := p1_.cell 6
             have p7 := p1_.cell 7
             have p8 := p1_.cell 8
             have p9 := p1_.cell 9
             have p10 := p1_.cell 10
             have p11 := p1_.cell 11
             have p12 := p1_.cell 12
             have p13 := p1_.cell 13
             have p14 := p1_.cell 14
             simp at p0 p1 p2 p3 p4 p5 p6 p7 p8 p9 p10 p11 p12 p13 p14
             have hlt1 := p1_.lt
             clear p1_ hb1)
          | (go_at_call 11; (with_reducible refine (HVA.out _ K1.out).mono ?_); rintro e2 w2 ⟨rfl, hb2⟩
             have K2 := Lib.hid (K1.out.trans (hb2.mono K1.out.size))
             have p2_ := HB0.out.call K2.out
             have q0 := p2_.cell 0
             have q1 := p2_.cell 1
             have q2 := p2_.cell 2
             have q3 := p2_.cell 3
             have q4 := p2_.cell 4
             have q5 := p2_.cell 5
             have q6 := p2_.cell 6
             have q7 := p2_.cell 7
             have q8 := p2_.cell 8
             have q9 := p2_.cell 9
             have q10 := p2_.cell 10
             have q11 := p2_.cell 11
             have q12 := p2_.cell 12
             have q13 := p2_.cell 13
             have q14 := p2_.cell 14
             simp at q0 q1 q2 q3 q4 q5 q6 q7 q8 q9 q10 q11 q12 q13 q14
             have hlt2 := p2_.lt
             clear p2_ hb2)
          | (go_at_call 12; (with_reducible refine (HLI.out _ K2.out).mono ?_); rintro e3 w3 ⟨rfl, hb3⟩
             have K3 := Lib.hid (K2.out.trans (hb3.mono K2.out.size))
             have p3_ := HB0.out.call K3.out
             have r0 := p3_.cell 0
             have r1 := p3_.cell 1
             have r2 := p3_.cell 2
             have r3 := p3_.cell 3
             have r4 := p3_.cell 4
             have r5 := p3_.cell 5
             have r6 := p3_.cell 6
             have r7 := p3_.cell 7
             have r8 := p3_.cell 8
             have r9 := p3_.cell 9
             have r10 := p3_.cell 10
             have r11 := p3_.cell 11
             have r12 := p3_.cell 12
             have r13 := p3_.cell 13
             have r14 := p3_.cell 14
             simp at r0 r1 r2 r3 r4 r5 r6 r7 r8 r9 r10 r11 r12 r13 r14
             have hlt3 := p3_.lt
             clear p3_ hb3)
          | (go_at_call 13; (with_reducible refine (HST.out _ K3.out).mono ?_); rintro e4 w4 ⟨rfl, hb4⟩
             have K4 := Lib.hid (K3.out.trans (hb4.mono K3.out.size))
             have p4_ := HB0.out.call K4.out
             have s0 := p4_.cell 0
             have s1 := p4_.cell 1
             have s2 := p4_.cell 2
             have s3 := p4_.cell 3
             have s4 := p4_.cell 4
             have s5 := p4_.cell 5
             have s6 := p4_.cell 6
             have s7 := p4_.cell 7
             have s8 := p4_.cell 8
             have s9 := p4_.cell 9
             have s10 := p4_.cell 10
             have s11 := p4_.cell 11
             have s12 := p4_.cell 12
             have s13 := p4_.cell 13
             have s14 := p4_.cell 14
             simp at s0 s1 s2 s3 s4 s5 s6 s7 s8 s9 s10 s11 s12 s13 s14
             have hlt4 := p4_.lt
             clear p4_ hb4)
          | (go_at_call 14; (with_reducible refine (HOF2.out _ K4.out).mono ?_); rintro e5 w5 ⟨rfl, hb5⟩
             have K5 := Lib.hid (K4.out.trans (hb5.mono K4.out.size))
             clear hb5)
        obtain ⟨X, hX⟩ : ∃ X, (w5.alloc (.cells (wordsC (List.replicate N 0)).toArray 21)).alloc (.cells (intsV (List.replicate N 0)).toArray 3) = X := ⟨_, rfl⟩
        obtain ⟨gw, hgw⟩ : ∃ q, w5.heap.size = q := ⟨_, rfl⟩
        have hbX : Below w5.heap.size w5 X := by rw [← hX]; exact below_2 _ _ _
        have kX : Below W0.heap.size W0 X := K5.out.trans (hbX.mono K5.out.size)
        have r1_ : RowW X gw 21 (wordsC (fillP fill N 0)) := by rw [fillP_zero, ← hgw, ← hX]; exact RowW.of_blk ((Blk.new w5 _ _).alloc _)
        have r2_ : RowW X (gw + 1) 3 (intsV (List.replicate N 0)) := by rw [← hgw, ← hX]; exact RowW.of_blk (blk_2 w5 _ _ _)
        have hgw0 : W0.heap.size ≤ gw := by rw [← hgw]; exact K5.out.size
        rw [hX]
        simp only [hgw]
        have KX := Lib.hid kX
        have R1 := Lib.hid r1_
        have R2 := Lib.hid r2_
        have HGW := Lib.hid hgw0
        clear hX hbX kX r1_ r2_ K1 K2 K3 K4 K5 hmk1 hmk2 hgw
        go_loopw [12] (fun i wr => ∃ k : Nat, k ≤ N ∧ i = .int .i64 k ∧ Hid (RowW wr gw 21 (wordsC (fillP fill N k))) ∧ Hid (RowW wr (gw + 1) 3 (intsV (List.replicate N 0))) ∧ Hid (Below W0.heap.size W0 wr)) (fun i _ => N - (intOf i).toNat)
        case atStart => exact ⟨0, Nat.zero_le _, rfl, R1, R2, KX⟩
        case round =>
          clear R1 R2 KX
          obtain ⟨k, hk, rfl, R1, R2, KX⟩ := hrel
          by_cases hltk : k < N
          · have hltI : (k : Int) < N := by omega
            obtain ⟨wv, hwv⟩ : ∃ o, (fillP fill N k)[k]? = some o := ⟨_, List.getElem?_eq_getElem (by rw [fillP_len]; exact hltk)⟩
            have wc_ := R1.out.cell (wordsC_get hwv)
            have wf_ := R1.out.frozen k
            have hgl := R1.out.lt
            clear hwv
            go_wp2
            go_roundw
            case rel => exact ⟨k + 1, by omega, by go_num, Lib.hid (by rw [← fillP_set, wordsC_set]; exact R1.out.set k _), Lib.hid (R2.out.far (p := ⟨gw, k, none⟩) (by simp) _), Lib.hid (KX.out.setCell HGW.out _)⟩
            case measure => simp [intOf]; omega
          · have hltI : ¬ (k : Int) < N := by omega
            obtain rfl : k = N := by omega
            have R1f : Hid (RowW wr gw 21 (wordsC (fillL fill k))) := Lib.hid (by rw [← fillP_end]; exact R1.out)
            have R2f : Hid (RowW wr (gw + 1) 3 (intsV (ownL temp.toNat 0 k))) := Lib.hid (by rw [ownL_zero]; exact R2.out)
            clear R1 R2
            obtain ⟨wo, hwo⟩ : ∃ wo : World, wo = wr := ⟨_, rfl⟩
            rw [← hwo] at R1f R2f KX ⊢
            clear hwo
            go_wp2
            go_loopw [13] (fun i wr => ∃ j : Nat, j ≤ TV ∧ i = .int .i64 j ∧ Hid (RowW wr gw 21 (wordsC (fillL fill k))) ∧ Hid (RowW wr (gw + 1) 3 (intsV (ownL temp.toNat j k))) ∧ Hid (Below W0.heap.size W0 wr)) (fun i _ => TV - (intOf i).toNat)
            case atStart => exact ⟨0, Nat.zero_le _, rfl, R1f, R2f, KX⟩
            case round =>
              clear R1f R2f KX
              obtain ⟨j, hj, rfl, R1, R2, KX⟩ := hrel
              have bx := HB0.out.call KX.out
              have x0 := bx.cell 0
              have x1 := bx.cell 1
              have x2 := bx.cell 2
              have x3 := bx.cell 3
              have x4 := bx.cell 4
              have x5 := bx.cell 5
              have x6 := bx.cell 6
              have x7 := bx.cell 7
              have x8 := bx.cell 8
              have x9 := bx.cell 9
              have x10 := bx.cell 10
              have x11 := bx.cell 11
              have x12 := bx.cell 12
              have x13 := bx.cell 13
              have x14 := bx.cell 14
              simp at x0 x1 x2 x3 x4 x5 x6 x7 x8 x9 x10 x11 x12 x13 x14
              have hltx := bx.lt
              clear bx
              by_cases hltj : j < TV
              · have hltJ : (j : Int) < TV := by omega
                obtain ⟨q, hq⟩ : ∃ q : Nat, temp + (j : Int) = q := ⟨(temp + j).toNat, by omega⟩
                have hqk : q < k := by omega
                have hqI : (q : Int) < k := by omega
                have HQ := Lib.hid hq
                obtain ⟨ov, hov⟩ : ∃ o, (ownL temp.toNat j k)[q]? = some o := ⟨_, List.getElem?_eq_getElem (by rw [ownL_len]; exact hqk)⟩
                have HOV := Lib.hid hov
                clear hov
                go_wp2_with first
                  | (go_at_call 15; (with_reducible refine (HTM.out _ KX.out).mono ?_); rintro e6 w6 ⟨rfl, hb6⟩
                     have R16 := Lib.hid (R1.out.call hb6)
                     have R26 := Lib.hid (R2.out.call hb6)
                     have K6 := Lib.hid (KX.out.trans (hb6.mono KX.out.size))
                     have by_ := HB0.out.call K6.out
                     have y0 := by_.cell 0
                     have y1 := by_.cell 1
                     have y2 := by_.cell 2
                     have y3 := by_.cell 3
                     have y4 := by_.cell 4
                     have y5 := by_.cell 5
                     have y6 := by_.cell 6
                     have y7 := by_.cell 7
                     have y8 := by_.cell 8
                     have y9 := by_.cell 9
                     have y10 := by_.cell 10
                     have y11 := by_.cell 11
                     have y12 := by_.cell 12
                     have y13 := by_.cell 13
                     have y14 := by_.cell 14
                     simp at y0 y1 y2 y3 y4 y5 y6 y7 y8 y9 y10 y11 y12 y13 y14
                     have hlty := by_.lt
                     have oc_ := R26.out.cell (intsV_get HOV.out)
                     have of_ := R26.out.frozen q
                     have hgl := R26.out.lt
                     clear by_ hb6)
                go_roundw
                case rel => exact ⟨j + 1, by omega, by go_num, Lib.hid (R16.out.far (p := ⟨gw + 1, q, none⟩) (by simp) _), Lib.hid (by rw [← ownL_set, intsV_set, show temp.toNat + j = q by have := HQ.out; omega]; exact R26.out.set q _), Lib.hid (K6.out.setCell (Nat.le_succ_of_le HGW.out) _)⟩
                case measure => simp [intOf]; omega
              · have hltJ : ¬ (j : Int) < TV := by omega
                obtain rfl : j = TV := by omega
                obtain ⟨P, hP⟩ : ∃ P, markE g ss e (fillL fill k, ownL temp.toNat j k) = P := ⟨_, rfl⟩
                have HRP : Hid (R = P) := Lib.hid (by
                  rw [HR.out]
                  unfold layW
                  rw [Int.toNat_natCast, HTVE.out]
                  exact hP)
                have HPP := Lib.hid hP
                clear hP
                go_wp2_with first
                  | (go_at_call 15; (with_reducible refine (HTM.out _ KX.out).mono ?_); rintro e6 w6 ⟨rfl, hb6⟩
                     have R16 := Lib.hid (R1.out.call hb6)
                     have R26 := Lib.hid (R2.out.call hb6)
                     have K6 := Lib.hid (KX.out.trans (hb6.mono KX.out.size))
                     have by_ := HB0.out.call K6.out
                     have y0 := by_.cell 0
                     have y1 := by_.cell 1
                     have y2 := by_.cell 2
                     have y3 := by_.cell 3
                     have y4 := by_.cell 4
                     have y5 := by_.cell 5
                     have y6 := by_.cell 6
                     have y7 := by_.cell 7
                     have y8 := by_.cell 8
                     have y9 := by_.cell 9
                     have y10 := by_.cell 10
                     have y11 := by_.cell 11
                     have y12 := by_.cell 12
                     have y13 := by_.cell 13
                     have y14 := by_.cell 14
                     simp at y0 y1 y2 y3 y4 y5 y6 y7 y8 y9 y10 y11 y12 y13 y14
                     have hlty := by_.lt
                     have HMC := Lib.hid (HMK2.out gw (fillL fill k, ownL temp.toNat j k) w6 K6.out HGW.out R26.out.lt ⟨wo_ok fill _ _ _, fun _ => ⟨⟨rfl, R16.out⟩, ⟨rfl, R26.out⟩⟩⟩)
                     clear by_ hb6)
                  | (go_at_call 16; (with_reducible refine HMC.out.mono ?_); rintro e7 w7 ⟨rfl, hu7, hwo7⟩
                     have HU7 := Lib.hid hu7
                     have HW7 := Lib.hid hwo7
                     clear hu7 hwo7)
                go_ret2
                have hbel : Below w.heap.size w w7 := HK0.out.trans ((K6.out.trans (HU7.out.below HGW.out (Nat.le_succ_of_le HGW.out) K6.out.size)).mono HK0.out.size)
                have h8 := HW7.out
                rw [HPP.out] at h8 ⊢
                refine ⟨hbel, ?_⟩
                rw [HRP.out]
                cases P with
                | none => exact .inl ⟨rfl, _, _, _, rfl⟩
                | some s =>
                  have h9 := h8 s rfl
                  refine .inr ⟨s, some ⟨gw, 0, none⟩, k, rfl, by rw [h9.1.1]; rfl, ?_⟩
                  by_cases hk0 : 0 < k
                  · have h10 := (h9.2 hk0).1.2.reads (n := k) (size := 1) (by rw [wordsC_len, h9.1.1, Nat.mul_one])
                    rw [h9.1.1]
                    exact h10
                  · have hk00 : s.1.length = 0 := by rw [h9.1.1]; omega
                    rw [hk00]
                    exact ⟨by rw [wordsC_len, hk00], fun h => absurd h (by decide)⟩
end Go.Proofs.YtbefmlioampgcaaGreatDoor
