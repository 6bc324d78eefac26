/- LoaderCode, walked. -/
import Derived.Test.YtljeecocbcffcaaDoorHK16
import Derived.Test.YtljeecocbcffcaaDoorHK9
import Derived.Test.YtljeecocbcffcaaDoorHBB
import Derived.Deep.RegionWith
namespace Go.Proofs.YtljeecocbcffcaaDoor
open Go.RowKit
set_option linter.unusedSimpArgs false
set_option linter.unusedVariables false

set_option maxRecDepth 100000 in
set_option maxHeartbeats 8000000 in
theorem lCodeLaw (B : Nat) (w : World) (hL : LaidW B w) (hB : B ≤ w.heap.size) :
    Calls Tryd.prog 3 #[] w (RetV (.bool true) w) := by
  have HL := Lib.hid hL
  have HB := Lib.hid hB
  have HB1 := Lib.hid (lBoot B w hL hB)
  have HRB := Lib.hid (fun w1 => rBoot38 w1)
  have HBT := Lib.hid (fun w1 (hb : Below w.heap.size w w1) => lBoot B w1 (hL.call hb hB) (Nat.le_trans hB hb.size))
  have hone := Lib.hid (linesL_one bootL)
  obtain ⟨bb, hbb⟩ : ∃ bb, bootB = bb := ⟨_, rfl⟩
  rw [hbb] at HB1 HRB HBT
  have HBB : Hid (bb = 40 :: codeL bootL) := Lib.hid (by rw [← hbb]; rfl)
  clear hbb
  have HBL : Hid (linesL bootL = linesL bootL) := Lib.hid rfl
  clear hL HBL
  go_enter Tryd.func3, Tryd.ntmps3
  go_upto_region 4 with (first
    | (go_at_call 10; (with_reducible refine HB1.out.mono ?_); rintro e w1 ⟨v, rfl, ho, hb1⟩
       obtain ⟨A1, c1, rfl⟩ := own_form ho
       have K1 := Lib.hid hb1
       have HG1 := Lib.hid (fun g (h : (Value.slice A1 41 c1).ownBlock = some g) => (ho.lt g h).2)
       have HW1 := Lib.hid hb1.size
       have O1 := Lib.hid ho
       clear ho hb1)
    | (go_at_call 11; (refine (lLines w1).mono ?_); rintro e w2 ⟨A2, c2, rfl, ho, hb2⟩
       have K2 := Lib.hid (K1.out.trans (hb2.mono K1.out.size))
       have O2 := Lib.hid (O1.out.keep hb2 (Nat.le_refl _))
       have L2 := Lib.hid ho
       have HG2 := Lib.hid (fun g (h : (Value.slice A2 36 c2).ownBlock = some g) => (ho.lt g h).2)
       clear ho hb2 O1)
    | (go_at_call 12; (refine (rLines38 w2).mono ?_); rintro e w3 ⟨A3, c3, rfl, ho, hb3⟩
       have K3 := Lib.hid (K2.out.trans (hb3.mono K2.out.size))
       have O3 := Lib.hid (O2.out.keep hb3 (Nat.le_refl _))
       have L3 := Lib.hid (L2.out.keep hb3 (Nat.le_refl _))
       have M3 := Lib.hid ho
       clear ho hb3 O2 L2))
  have cv1 : (convert 22 9 (.slice A1 41 c1)).run Tryd.prog w3.drew = .ok (.string (strB bb)) w3.drew := conv_back ((Reads.of_own O3.out).drew)
  have R3 := Lib.hid (fun w' (hb : Below w3.heap.size w3 w') => (conv_back ((Reads.of_own O3.out).below hb) : (convert 22 9 (.slice A1 41 c1)).run Tryd.prog w' = .ok (.string (strB bb)) w'))
  clear R3
  go_cut [22] (fun s22 wx => s22 = .bool false ∧ Hid (Below w3.heap.size w3 wx))
  case first =>
    go_region_with (first
     | (go_at_call 13; (refine (HRB.out _).mono ?_); rintro e w4 ⟨v4, rfl, ho4, hb4⟩
        obtain ⟨A4, c4, rfl⟩ := own_form ho4
        have cv14 : (convert 22 9 (.slice A1 41 c1)).run Tryd.prog w4 = .ok (.string (strB bb)) w4 := conv_back ((Reads.of_own O3.out).below ((Below.refl w3.heap.size w3).drew.trans hb4))
        have cv4 : (convert 22 9 (.slice A4 41 c4)).run Tryd.prog w4 = .ok (.string (strB bb)) w4 := conv_back (Reads.of_own ho4)
        have K4 : Hid (Below w3.heap.size w3 w4) := Lib.hid ((Below.refl w3.heap.size w3).drew.trans hb4)))
    all_goals
      go_wp2
      go_meet
      exact ⟨rfl, K4⟩
  case rest =>
    obtain ⟨rfl, K4⟩ := hcut
    have K5 := Lib.hid (K3.out.trans (K4.out.mono K3.out.size))
    have O5 := Lib.hid (O3.out.keep K4.out (Nat.le_refl _))
    have L5 := Lib.hid (L3.out.keep K4.out (Nat.le_refl _))
    have M5 := Lib.hid (M3.out.keep K4.out (Nat.le_refl _))
    clear cv1 K3 O3 L3 M3 K4
    obtain ⟨g2, cap2, h2, hg2, hl2⟩ := ownsRow_pos L5.out (by decide)
    injection h2 with ea2 en2 ec2
    subst ea2 ec2
    obtain ⟨g3, cap3, h3, hg3, hl3⟩ := ownsRow_pos M5.out (by decide)
    injection h3 with ea3 en3 ec3
    subst ea3 ec3
    clear en2 en3
    have HL2 := Lib.hid (RowC.of_own L5.out)
    have HL3 := Lib.hid (RowC.of_own M5.out)
    go_upto_region 7 with (fail)
    go_loopw [4] (fun i wr => ∃ k : Nat, k ≤ 36 ∧ i = .int .i64 k ∧ Hid (Below wc.heap.size wc wr)) (fun i _ => 36 - (intOf i).toNat)
    case atStart => exact ⟨0, by omega, rfl, Lib.hid (Below.refl _ _)⟩
    case round =>
      obtain ⟨k, hk, rfl, K⟩ := hrel
      by_cases hlt : k < 36
      · have hltI : (k : Int) < 36 := by omega
        obtain ⟨x, hx⟩ : ∃ x, bootL[k]? = some x := ⟨_, List.getElem?_eq_getElem (show k < bootL.length from hlt)⟩
        obtain ⟨x0, x1, x2, x3, x4⟩ := linesL_at hx
        have R2 := HL2.out.call K.out
        have R3 := HL3.out.call K.out
        have p0 := R2.cell x0
        have p1 := R2.cell x1
        have p2 := R2.cell x2
        have p3 := R2.cell x3
        have p4 := R2.cell x4
        have q0 := R3.cell x0
        have q1 := R3.cell x1
        have q2 := R3.cell x2
        have q3 := R3.cell x3
        have q4 := R3.cell x4
        rw [Nat.mul_comm] at p0 p1 p2 p3 p4 q0 q1 q2 q3 q4
        have hle : lineEq (strB x.label) x.fn x.arg (strB x.target) (strB x.frm) (strB x.label) x.fn x.arg (strB x.target) (strB x.frm) = true := by rw [lineEq_eq]; simp
        clear x0 x1 x2 x3 x4 R2 R3 hx
        go_upto_region 9 with (fail)
        go_quiet (fail)
        go_wp2
        go_roundw
        case rel => exact ⟨k + 1, by omega, by go_num, Lib.hid (below_drewN K.out _)⟩
        case measure => simp [intOf]; omega
      · have hltI : ¬ (k : Int) < 36 := by omega
        obtain rfl : k = 36 := by omega
        have K6 := Lib.hid (K5.out.trans (K.out.mono K5.out.size))
        have O6 := Lib.hid (O5.out.keep K.out (Nat.le_refl _))
        have R2 := Lib.hid (HL2.out.call K.out)
        have R3 := Lib.hid (HL3.out.call K.out)
        have HS := Lib.hid K.out.size
        have HN2 := Lib.hid (HG2.out g2 rfl)
        clear K5 O5 L5 M5 HL2 HL3 K HG2
        obtain ⟨g1, cap1, h1, hg1, hl1⟩ := ownsRow_pos O6.out (by decide)
        injection h1 with ea1 en1 ec1
        subst ea1 ec1
        clear en1
        have HC1 := Lib.hid (own_cap O6.out)
        go_upto_region 12 with (go_at_call 14
                                refine (pAssembleW bootL boot_ok (by decide) (some ⟨g2, 0, none⟩) c2 B wr (R2.out.reads (by rw [linesL_len]; rfl)) (HL.out.call K6.out HB.out) (Nat.le_trans HB.out K6.out.size)).mono ?_
                                intro e w7 h7
                                obtain ⟨hb7, A7, c7, v7, rfl, ho7⟩ := asmZero boot_check h7
                                have K7 := Lib.hid (K6.out.trans (hb7.mono K6.out.size))
                                have O7 := Lib.hid (O6.out.keep hb7 (Nat.le_refl _))
                                have R27 := Lib.hid (R2.out.call hb7)
                                have R37 := Lib.hid (R3.out.call hb7)
                                have A7O := Lib.hid ho7
                                clear h7 hb7 ho7)
        generalize hcl : codeL bootL = cl at *
        have hlen : cl.length = 40 := by rw [← hcl]; exact boot_len
        have HCL := Lib.hid hcl
        rw [hlen] at A7O ⊢
        have HLEN := Lib.hid hlen
        clear hlen hcl
        have cA : w7.cell? ⟨g1, 0, none⟩ = some (.int .u8 40) := by rw [O7.out.cellAt 0 (by decide), HBB.out]; rfl
        have hc1 : (41 : Int) ≤ (c1 : Nat) := by have := HC1.out; omega
        have hrt : Reads w7 w7.heap.size 1 (some ⟨g1, 1, none⟩) 40 (bcells cl) := by
          have h := (Reads.of_own O7.out).tail (k := 1) (by decide)
          rw [HBB.out] at h
          exact h
        have cvT : ∀ n, (convert 22 9 (.slice (some ⟨g1, 1, none⟩) 40 (c1 - 1))).run Tryd.prog (w7.drewN n) = .ok (.string (strB cl)) (w7.drewN n) := fun n => conv_back (hrt.drewN n)
        have cvC : ∀ n, (convert 22 9 (.slice A7 40 c7)).run Tryd.prog (w7.drewN n) = .ok (.string (strB cl)) (w7.drewN n) := fun n => conv_back ((Reads.of_own A7O.out).drewN n)
        clear hrt
        go_quiet (fail)
        have hg12 : g1 ≠ g2 := by have := HG1.out g1 rfl; omega
        have hg13 : g1 ≠ g3 := by have := HG1.out g1 rfl; have := K2.out.size; have := HN2.out; omega
        have hg23 : g2 ≠ g3 := by have := HN2.out; omega
        have hg2w : w.heap.size ≤ g2 := by have := HW1.out; omega
        have c3 : (w7.drewN nq).cell? ⟨g1, 3, none⟩ = some (.int .u8 208) := by
          have h : w7.cell? ⟨g1, 3, none⟩ = some (.int .u8 208) := by rw [O7.out.cellAt 3 (by decide), HBB.out, ← HCL.out, boot_code]; rfl
          exact h
        have f3 : (w7.drewN nq).frozen? ⟨g1, 3, none⟩ = false := O7.out.frozenAt 3
        have K8 := Lib.hid (below_drewN K7.out nq)
        have R28 := R27.out.drewN nq
        have R38 := R37.out.drewN nq
        clear cA hc1 cvT cvC K7 O7 R27 R37 A7O HBB HCL HLEN HC1 HN2 HG1 K6 R2 R3 HS K1 K2 HW1 O6 hl1 hg2 hl2 hg3 hl3 HB1
        generalize w7.drewN nq = W8 at *
        go_upto_region 15 with (fail)
        have K9 := Lib.hid (K8.out.setCell (p := ⟨g1, 3, none⟩) hg1 (.int .u8 209))
        have R29 := R28.far (p := ⟨g1, 3, none⟩) (Ne.symm hg12) (.int .u8 209)
        have R39 := R38.far (p := ⟨g1, 3, none⟩) (Ne.symm hg13) (.int .u8 209)
        clear c3 f3 K8 R28 R38
        generalize W8.setCell ⟨g1, 3, none⟩ (.int .u8 209) = W9 at *
        have f12 := R29.frozen 12
        have K10 := Lib.hid (K9.out.setCell (p := ⟨g2, 12, none⟩) hg2w (.int .i32 99))
        have R310 := Lib.hid (R39.far (p := ⟨g2, 12, none⟩) (Ne.symm hg23) (.int .i32 99))
        obtain ⟨y0, hy0⟩ : ∃ v, (linesL bootL)[12]? = some v := ⟨_, List.getElem?_eq_getElem (by rw [linesL_len]; decide)⟩
        have c12 := R29.cell hy0
        clear hy0 K9 R39
        go_upto_region 16 with (fail)
        clear c12 f12 R29
        generalize W9.setCell ⟨g2, 12, none⟩ (.int .i32 99) = W10 at *
        obtain ⟨x, hx⟩ : ∃ x, bootL[2]? = some x := ⟨_, List.getElem?_eq_getElem (show 2 < bootL.length by decide)⟩
        obtain ⟨x0, x1, x2, x3, x4⟩ := linesL_at hx
        have hle : lineEq (strB x.label) x.fn x.arg (strB x.target) (strB x.frm) (strB x.label) x.fn x.arg (strB x.target) (strB x.frm) = true := by rw [lineEq_eq]; simp
        have HX := Lib.hid (And.intro x0 (And.intro x1 (And.intro x2 (And.intro x3 x4))))
        have HB10 := Lib.hid (HBT.out W10.drew K10.out.drew)
        have HK := Lib.hid (fun (W : World) (hb : Below w.heap.size w W) => lHead38 B W (HL.out.call hb HB.out) (Nat.le_trans HB.out hb.size))
        clear x0 x1 x2 x3 x4 hx HL HBT hg12 hg13 hg23 hg2w hg1 hlt hltI hk
        generalize bootL.length = bn at *
        go_region_with (first
          | (go_at_call 10; (refine HB10.out.mono ?_); rintro e w11 ⟨v11, rfl, ho11, hb11⟩
             obtain ⟨A11, c11, rfl⟩ := own_form ho11
             have cvB : (convert 22 9 (.slice A11 41 c11)).run Tryd.prog w11 = .ok (.string (strB bb)) w11 := conv_back (Reads.of_own ho11)
             have K11 := Lib.hid (K10.out.drew.trans (hb11.mono K10.out.drew.size))
             have R311 := Lib.hid (R310.out.drew.call hb11)
             have O11 := Lib.hid ho11
             clear hb11 ho11)
          | (go_at_call 13; (refine (HRB.out _).mono ?_); rintro e w12 ⟨v12, rfl, ho12, hb12⟩
             obtain ⟨A12, c12, rfl⟩ := own_form ho12
             have cvB2 : (convert 22 9 (.slice A11 41 c11)).run Tryd.prog w12 = .ok (.string (strB bb)) w12 := conv_back ((Reads.of_own O11.out).below hb12)
             have cvC2 : (convert 22 9 (.slice A12 41 c12)).run Tryd.prog w12 = .ok (.string (strB bb)) w12 := conv_back (Reads.of_own ho12)
             have K12 := Lib.hid (K11.out.trans (hb12.mono K11.out.size))
             have R312 := Lib.hid (R311.out.call hb12)
             have q0 := R312.out.cell HX.out.1
             have q1 := R312.out.cell HX.out.2.1
             have q2 := R312.out.cell HX.out.2.2.1
             have q3 := R312.out.cell HX.out.2.2.2.1
             have q4 := R312.out.cell HX.out.2.2.2.2
             simp only [Nat.reduceMul, Nat.reduceAdd] at q0 q1 q2 q3 q4
             clear hb12 ho12)
          | (go_at_call 11; (refine (lLines w12).mono ?_); rintro e w13 ⟨A13, c13, rfl, ho13, hb13⟩
             obtain ⟨g13, cap13, h13, hg13, hl13⟩ := ownsRow_pos ho13 (by decide)
             injection h13 with ea13 en13 ec13
             subst ea13 ec13
             clear en13
             have K13 := Lib.hid (K12.out.trans (hb13.mono K12.out.size))
             have R313 := Lib.hid (R312.out.call hb13)
             have S13 := Lib.hid (RowC.of_own ho13)
             have s0 := R313.out.cell HX.out.1
             have s1 := R313.out.cell HX.out.2.1
             have s2 := R313.out.cell HX.out.2.2.1
             have s3 := R313.out.cell HX.out.2.2.2.1
             have s4 := R313.out.cell HX.out.2.2.2.2
             have t0 := S13.out.cell HX.out.1
             have t1 := S13.out.cell HX.out.2.1
             have t2 := S13.out.cell HX.out.2.2.1
             have t3 := S13.out.cell HX.out.2.2.2.1
             have t4 := S13.out.cell HX.out.2.2.2.2
             simp only [Nat.reduceMul, Nat.reduceAdd] at s0 s1 s2 s3 s4 t0 t1 t2 t3 t4
             clear hb13 ho13 hg13 hl13)
          | (go_at_call 15; (refine (HK.out _ K13.out).mono ?_); rintro e w14 ⟨rfl, hb14⟩
             have K14 := Lib.hid (K13.out.trans (hb14.mono K13.out.size))
             clear hb14))
        all_goals
          go_wp2
          go_ret
          exact ⟨rfl, K14.out⟩
end Go.Proofs.YtljeecocbcffcaaDoor
