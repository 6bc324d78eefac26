/- The law PlaceTurned, walked. -/
import Derived.Test.YtekamebpjjkifaaHLM
import Derived.Test.YtekamebpjjkifaaHRA
import Derived.Test.YtekamebpjjkifaaHRB
import Derived.Test.YtekamebpjjkifaaHK40
namespace Go.Proofs.Ytekamebpjjkifaa
open Go.RowKit Go.Maps
set_option linter.unusedSimpArgs false
set_option linter.unusedVariables false

set_option maxRecDepth 100000 in
set_option maxHeartbeats 8000000 in
theorem lPlaceTurned (k : KK) (t : TN) (l : List Plc) (LA : Option Addr) (lc : Nat) (B : Nat) (w : World) (hk : k.In w B) (ht : t.In w B) (hl : Reads w B 5 LA l.length (plcC l)) (hB : B ≤ w.heap.size) (hcap : k.procs.length ≤ k.cp) (hll : l.length ≤ 140737488355328) (hlo : ∀ y ∈ l, okPt y.o ∧ okPt y.i) :
    Calls Try.prog 5 #[.agg k.flat, .agg t.flat, .slice LA l.length lc] w (RetV (.bool true) w) := by
  obtain ⟨W0, hW0⟩ : ∃ W, (w.alloc (.cells k.flat 34)).alloc (.cells t.flat 40) = W := ⟨_, rfl⟩
  obtain ⟨l1, l2, l3⟩ := lay2 w k.flat t.flat 34 40
  rw [hW0] at l1 l2 l3
  have S0 := Lib.hid (MkS.mk l1 l2 l3)
  have HL := Lib.hid (fun w1 (hb : Below w.heap.size w w1) => lLarge40 k t B w1 (hk.below (hb.mono hB)) (Nat.le_trans hB hb.size))
  have HM := Lib.hid (fun w1 (hb : Below w.heap.size w w1) (hw : t.ws.length ≤ 40) => pMake k t B w1 (hk.below (hb.mono hB)) (ht.below (hb.mono hB)) (Nat.le_trans hB hb.size) hcap (by omega))
  have HM2 : Hid (∀ (A : Option Addr) (c : Nat) (w1 : World), Below w.heap.size w w1 → t.ws.length ≤ 40 → (t.with_ A c (turnW t.ws)).In w1 w1.heap.size → Calls Try.prog 11 #[.agg k.flat, .agg (t.with_ A c (turnW t.ws)).flat] w1 (RetPl (makeQ k t) w1)) := Lib.hid fun A c w1 hb hw hi => by
    have := pMake k (t.with_ A c (turnW t.ws)) w1.heap.size w1 ((hk.below (hb.mono hB)).more (Nat.le_trans hB hb.size)) hi (Nat.le_refl _) hcap (by show (turnW t.ws).length ≤ _; rw [turnW_len]; omega)
    rw [makeQ_turn (turnW_turn _)] at this
    exact this
  have HT := Lib.hid (fun w1 (hb : Below w.heap.size w w1) (hw : t.ws.length ≤ 40) => lTurned t B w1 (ht.below (hb.mono hB)) (Nat.le_trans hB hb.size) (by omega))
  have HC := Lib.hid (fun w1 (hb : Below w.heap.size w w1) (hw : t.ws.length ≤ 40) => pCheck k t l LA lc B w1 (hk.below (hb.mono hB)) (ht.below (hb.mono hB)) (Nat.le_trans hB hb.size) hcap (by omega) (hl.below (hb.mono hB)) hlo hll)
  have HC2 : Hid (∀ (A : Option Addr) (c : Nat) (w1 : World), Below w.heap.size w w1 → t.ws.length ≤ 40 → (t.with_ A c (turnW t.ws)).In w1 w1.heap.size → Calls Try.prog 14 #[.agg k.flat, .agg (t.with_ A c (turnW t.ws)).flat, .slice LA l.length lc] w1 (RetV (.bool (checkQ k t l)) w1)) := Lib.hid fun A c w1 hb hw hi => by
    have hB1 := Nat.le_trans hB hb.size
    have := pCheck k (t.with_ A c (turnW t.ws)) l LA lc w1.heap.size w1 ((hk.below (hb.mono hB)).more hB1) hi (Nat.le_refl _) hcap (by show (turnW t.ws).length ≤ _; rw [turnW_len]; omega) ((hl.below (hb.mono hB)).more hB1) hlo hll
    rw [checkQ_turn (turnW_turn _)] at this
    exact this
  have HH := Lib.hid (fun w1 => lHead40 w1)
  have HSH := Lib.hid (make_short k t)
  generalize makeQ k t = Q at *
  generalize checkQ k t l = cq at *
  obtain ⟨er, m⟩ := Q
  obtain ⟨n, hn⟩ : ∃ q, m.length = q := ⟨_, rfl⟩
  have HS : Hid (∀ (A A' : Option Addr) (c c' B1 B2 : Nat) (w1 : World), Reads w1 B1 5 A n (plcC m) → Reads w1 B2 5 A' n (plcC m) → Calls Try.prog 17 #[.slice A n c, .slice A' n c'] w1 (RetV (.bool true) w1)) := Lib.hid fun A A' c c' B1 B2 w1 h h' => by
    have hlm := HSH.out
    simp only at hlm
    have := rSame40 m m A A' c c' B1 B2 w1 (by omega) (by rw [hn]; exact h) (by rw [hn]; exact h')
    rw [decide_eq_true rfl, hn] at this
    exact this
  obtain ⟨ln, hln⟩ : ∃ q, l.length = q := ⟨_, rfl⟩
  obtain ⟨nw, hnw⟩ : ∃ q, t.ws.length = q := ⟨_, rfl⟩
  have ye : (er == er) = true := by simp
  have yc : (cq == cq) = true := by simp
  simp only [KK.flat, TN.flat, TN.with_, turnW_len, hln, hnw] at l2 l3 hW0 HL HM HM2 HT HC HC2 ⊢
  have e0 := l2.cell 0
  have e1 := l2.cell 1
  have e2 := l2.cell 2
  have e3 := l2.cell 3
  have e4 := l2.cell 4
  have e5 := l2.cell 5
  have e6 := l2.cell 6
  have e7 := l2.cell 7
  have e8 := l2.cell 8
  have e9 := l2.cell 9
  have e10 := l2.cell 10
  simp at e0 e1 e2 e3 e4 e5 e6 e7 e8 e9 e10
  have q0 := l3.cell 0
  have q1 := l3.cell 1
  have q2 := l3.cell 2
  have q3 := l3.cell 3
  simp at q0 q1 q2 q3
  clear l1 l2 l3 hk ht hl hB hln hll hlo hcap HSH
  by_cases hbig : 80 < ln
  · have yl : (80 : Int) < (ln : Int) := by omega
    clear hbig HM HM2 HT HC HC2 HS
    go_enter Try.func5, Try.ntmps5
    go_wp2_with (first
      | (go_at_call 6; (with_reducible refine (HL.out _ S0.out.bel).mono ?_); rintro e1 w1 ⟨hb1, big, rfl, -⟩)
      | (go_at_call 7; (with_reducible refine (HH.out _).mono ?_); rintro e2 w2 ⟨rfl, hb2⟩))
    all_goals go_ret
    all_goals exact ⟨rfl, (S0.out.bel.trans (hb1.mono S0.out.bel.size)).trans (hb2.mono (Nat.le_trans S0.out.bel.size hb1.size))⟩
  · have yl : ¬ (80 : Int) < (ln : Int) := by omega
    clear hbig
    go_enter Try.func5, Try.ntmps5
    go_wp2_with (first
      | (go_at_call 6; (with_reducible refine (HL.out _ S0.out.bel).mono ?_); rintro e1 w1 ⟨hb1, big, rfl, hb0⟩
         have HB0 : Hid (¬ big = true → nw ≤ 40) := Lib.hid fun h => by rw [← hnw]; exact hb0 (by simpa using h)
         have S1 := Lib.hid (S0.out.call hb1)
         have x1 := S1.out.kb
         have x2 := S1.out.tb
         simp only [KK.flat, TN.flat, hnw] at x1 x2
         have f0 := x1.cell 0
         have f1 := x1.cell 1
         have f2 := x1.cell 2
         have f3 := x1.cell 3
         have f4 := x1.cell 4
         have f5 := x1.cell 5
         have f6 := x1.cell 6
         have f7 := x1.cell 7
         have f8 := x1.cell 8
         have f9 := x1.cell 9
         have f10 := x1.cell 10
         simp at f0 f1 f2 f3 f4 f5 f6 f7 f8 f9 f10
         have p0 := x2.cell 0
         have p1 := x2.cell 1
         have p2 := x2.cell 2
         have p3 := x2.cell 3
         simp at p0 p1 p2 p3
         clear hb1 x1 x2 hb0)
      | (go_at_call 7; (with_reducible refine (HH.out _).mono ?_); rintro e2 w2 ⟨rfl, hb2⟩)
      | (go_at_call 11; (with_reducible refine (HM.out _ S1.out.bel (HB0.out (by assumption))).mono ?_); rintro e2 w2 ⟨hb2, A2, c2, rfl, hr2, -⟩
         simp only [hn] at hr2 ⊢
         have HNW := Lib.hid (HB0.out (by assumption))
         have S2 := Lib.hid (S1.out.call hb2)
         have R2 := Lib.hid hr2
         have x1 := S2.out.kb
         have x2 := S2.out.tb
         simp only [KK.flat, TN.flat, hnw] at x1 x2
         have f0 := x1.cell 0
         have f1 := x1.cell 1
         have f2 := x1.cell 2
         have f3 := x1.cell 3
         have f4 := x1.cell 4
         have f5 := x1.cell 5
         have f6 := x1.cell 6
         have f7 := x1.cell 7
         have f8 := x1.cell 8
         have f9 := x1.cell 9
         have f10 := x1.cell 10
         simp at f0 f1 f2 f3 f4 f5 f6 f7 f8 f9 f10
         have p0 := x2.cell 0
         have p1 := x2.cell 1
         have p2 := x2.cell 2
         have p3 := x2.cell 3
         simp at p0 p1 p2 p3
         clear hb2 x1 x2 hr2))
    · go_ret
      exact ⟨rfl, S1.out.bel.trans (hb2.mono S1.out.bel.size)⟩
    have lk : w.heap.size < w2.heap.size := S2.out.kb.lt
    have lt : w.heap.size + 1 < w2.heap.size := S2.out.tb.lt
    clear HB0 HL HM e0 e1 e2 e3 e4 e5 e6 e7 e8 e9 e10 q0 q1 q2 q3 hW0 S0 S1
    have HK2 := Lib.hid S2.out.bel.drew
    go_region_held3 (fun w' => w2.heap.size ≤ w'.heap.size ∧ ∀ b o, b < w2.heap.size → w'.cell? ⟨b, o, none⟩ = w2.cell? ⟨b, o, none⟩) (first | exact SBel.drew | exact SBel.drew.below hb3 | exact (SBel.drew.below hb3).below hb4)
      (first
        | (go_at_call 16; (with_reducible refine (HT.out _ HK2.out HNW.out).mono ?_); rintro e3 w3 ⟨hb3, A3, c3, rfl, hi3⟩
           simp only [TN.flat, TN.with_, turnW_len, hnw] at hi3 ⊢)
        | (go_at_call 11; (with_reducible refine (HM2.out _ _ _ (HK2.out.trans (hb3.mono HK2.out.size)) HNW.out hi3).mono ?_); rintro e4 w4 ⟨hb4, A4, c4, rfl, hr4, -⟩
           simp only [hn] at hr4 ⊢))
    have hb24 : Below w2.heap.size w2 w4 := (below_drew0 w2).trans (hb3.trans (hb4.mono hb3.size))
    have S4 := Lib.hid (S2.out.call hb24)
    have R4 := Lib.hid hr4
    replace R2 := Lib.hid (R2.out.below hb24)
    have x1 := S4.out.kb
    have x2 := S4.out.tb
    simp only [KK.flat, TN.flat, hnw] at x1 x2
    clear f0 f1 f2 f3 f4 f5 f6 f7 f8 f9 f10 p0 p1 p2 p3 lk lt hb3 hb4 hb24 hr4 hi3 HK2 HM2
    have f0 := x1.cell 0
    have f1 := x1.cell 1
    have f2 := x1.cell 2
    have f3 := x1.cell 3
    have f4 := x1.cell 4
    have f5 := x1.cell 5
    have f6 := x1.cell 6
    have f7 := x1.cell 7
    have f8 := x1.cell 8
    have f9 := x1.cell 9
    have f10 := x1.cell 10
    simp at f0 f1 f2 f3 f4 f5 f6 f7 f8 f9 f10
    have p0 := x2.cell 0
    have p1 := x2.cell 1
    have p2 := x2.cell 2
    have p3 := x2.cell 3
    simp at p0 p1 p2 p3
    clear x1 x2
    have lk : w.heap.size < w4.heap.size := S4.out.kb.lt
    have lt : w.heap.size + 1 < w4.heap.size := S4.out.tb.lt
    have HK4 := Lib.hid S4.out.bel.drew
    have R2d := Lib.hid R2.out.drew
    have R4d := Lib.hid R4.out.drew
    go_wp2
    go_region_held3 (fun w' => w4.heap.size ≤ w'.heap.size ∧ ∀ b o, b < w4.heap.size → w'.cell? ⟨b, o, none⟩ = w4.cell? ⟨b, o, none⟩) (first | exact SBel.drew | exact Q)
      (first
        | (go_at_call 17; (with_reducible refine (HS.out _ _ _ _ _ _ _ R2d.out R4d.out).mono ?_); rintro e5 w5 ⟨rfl, hb5⟩
           have K := Lib.hid (HK4.out.trans (hb5.mono HK4.out.size))
           have Q := SBel.drew.below hb5
           clear hb5)
        | (go_at_call 16; (with_reducible refine (HT.out _ K.out HNW.out).mono ?_); rintro e7 w7 ⟨hb7, A7, c7, rfl, hi7⟩
           simp only [TN.flat, TN.with_, turnW_len, hnw] at hi7 ⊢
           replace Q := Q.below hb7
           replace K := Lib.hid (K.out.trans (hb7.mono K.out.size))
           clear hb7)
        | (go_at_call 14; (with_reducible refine (HC.out _ K.out HNW.out).mono ?_); rintro e6 w6 ⟨rfl, hb6⟩
           replace Q := Q.below hb6
           replace K := Lib.hid (K.out.trans (hb6.mono K.out.size)))
        | (go_at_call 14; (with_reducible refine (HC2.out _ _ _ K.out HNW.out hi7).mono ?_); rintro e8 w8 ⟨rfl, hb8⟩
           replace Q := Q.below hb8
           replace K := Lib.hid (K.out.trans (hb8.mono K.out.size))
           clear hb8)
        | (go_at_call 14; (with_reducible refine (HC2.out _ _ _ K.out HNW.out (Reads.more (TN.In.below hi7 hb6) hb6.size)).mono ?_); rintro e8 w8 ⟨rfl, hb8⟩
           replace Q := Q.below hb8
           replace K := Lib.hid (K.out.trans (hb8.mono K.out.size))
           clear hb8)
        | (go_at_call 7; (with_reducible refine (HH.out _).mono ?_); rintro e9 w9 ⟨rfl, hb9⟩
           replace Q := Q.below hb9
           replace K := Lib.hid (K.out.trans (hb9.mono K.out.size))
           clear hb9))
    all_goals go_wp2
    all_goals go_ret
    all_goals exact ⟨rfl, K.out⟩
end Go.Proofs.Ytekamebpjjkifaa
