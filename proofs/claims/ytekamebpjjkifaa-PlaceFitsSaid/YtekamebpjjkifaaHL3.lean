/- The law PlaceFits where no placings are made, walked. -/
import Derived.Test.YtekamebpjjkifaaHLM
import Derived.Test.YtekamebpjjkifaaHK40
import Derived.Test.YtekamebpjjkifaaHV2
import Derived.Test.YtekamebpjjkifaaHK33
namespace Go.Proofs.Ytekamebpjjkifaa
open Go.RowKit Go.Maps
set_option linter.unusedSimpArgs false
set_option linter.unusedVariables false

set_option maxRecDepth 100000 in
set_option maxHeartbeats 8000000 in
theorem lPlaceFits_err (k : KK) (t : TN) (l : List Plc) (LA : Option Addr) (lc : Nat) (B : Nat) (w : World) (hk : k.In w B) (ht : t.In w B) (hl : Reads w B 5 LA l.length (plcC l)) (hB : B ≤ w.heap.size) (hcap : k.procs.length ≤ k.cp) (hll : l.length ≤ 140737488355328) (hlo : ∀ y ∈ l, okPt y.o ∧ okPt y.i) (he : (makeQ k t).1 ≠ 0) :
    Calls Try.prog 4 #[.agg k.flat, .agg t.flat, .slice LA l.length lc] w (RetV (.bool true) w) := by
  obtain ⟨W0, hW0⟩ : ∃ W, (w.alloc (.cells k.flat 34)).alloc (.cells t.flat 40) = W := ⟨_, rfl⟩
  obtain ⟨l1, l2, l3⟩ := lay2 w k.flat t.flat 34 40
  rw [hW0] at l1 l2 l3
  have S0 := Lib.hid (MkS.mk l1 l2 l3)
  have HL := Lib.hid (fun w1 (hb : Below w.heap.size w w1) => lLarge40 k t B w1 (hk.below (hb.mono hB)) (Nat.le_trans hB hb.size))
  have HM := Lib.hid (fun w1 (hb : Below w.heap.size w w1) (hw : t.ws.length ≤ 40) => pMake k t B w1 (hk.below (hb.mono hB)) (ht.below (hb.mono hB)) (Nat.le_trans hB hb.size) hcap (by omega))
  have HC := Lib.hid (fun w1 (hb : Below w.heap.size w w1) (hw : t.ws.length ≤ 40) => pCheck k t l LA lc B w1 (hk.below (hb.mono hB)) (ht.below (hb.mono hB)) (Nat.le_trans hB hb.size) hcap (by omega) (hl.below (hb.mono hB)) hlo hll)
  have HK := Lib.hid (fun w1 (hb : Below w.heap.size w w1) => rMay16 k B w1 (hk.below (hb.mono hB)) (Nat.le_trans hB hb.size))
  have HY := Lib.hid (fun w1 (hb : Below w.heap.size w w1) (hw : t.ws.length ≤ 40) => tmay t.N t.hn t.hl t.A t.ws.length t.c t.ws w1 ((ht.below (hb.mono hB)).top (Nat.le_trans hB hb.size)) (by omega))
  have HH := Lib.hid (fun w1 => lHead40 w1)
  have hcq := check_none l he
  have herr := make_err he
  have HNE := Lib.hid he
  rw [hcq] at HC
  generalize makeQ k t = Q at *
  obtain ⟨er, m⟩ := Q
  obtain ⟨ln, hln⟩ : ∃ q, l.length = q := ⟨_, rfl⟩
  obtain ⟨nw, hnw⟩ : ∃ q, t.ws.length = q := ⟨_, rfl⟩
  simp only [KK.flat, TN.flat, hln, hnw] at l2 l3 hW0 HL HM HC HK HY herr ⊢
  have e0 := l2.cell 0
  have e1 := l2.cell 1
  have e2 := l2.cell 2
  have e3 := l2.cell 3
  have e4 := l2.cell 4
  have e5 := l2.cell 5
  have e6 := l2.cell 6
  have e7 := l2.cell 7
  have e8 := l2.cell 8
  have e9 := l2.cell 9
  have e10 := l2.cell 10
  simp at e0 e1 e2 e3 e4 e5 e6 e7 e8 e9 e10
  have q0 := l3.cell 0
  have q1 := l3.cell 1
  have q2 := l3.cell 2
  have q3 := l3.cell 3
  simp at q0 q1 q2 q3
  have HERR := Lib.hid herr
  generalize mayK k = pk at *
  generalize mayB t.N t.ws t.hn t.hl = py at *
  clear l1 l2 l3 hk ht hl hB hln hll hlo hcap he hcq herr
  by_cases hbig : 80 < ln
  · have yl : (80 : Int) < (ln : Int) := by omega
    clear hbig HM HC HK HY
    go_enter Try.func4, Try.ntmps4
    go_wp2_with (first
      | (go_at_call 6; (with_reducible refine (HL.out _ S0.out.bel).mono ?_); rintro e1 w1 ⟨hb1, big, rfl, -⟩)
      | (go_at_call 7; (with_reducible refine (HH.out _).mono ?_); rintro e2 w2 ⟨rfl, hb2⟩))
    all_goals go_ret
    all_goals exact ⟨rfl, (S0.out.bel.trans (hb1.mono S0.out.bel.size)).trans (hb2.mono (Nat.le_trans S0.out.bel.size hb1.size))⟩
  · have yl : ¬ (80 : Int) < (ln : Int) := by omega
    clear hbig
    have arms : True := trivial
    rcases HERR.out with ⟨rfl, hmay⟩ | rfl
    · have HMY := Lib.hid hmay
      clear hmay HERR HNE
      cases pk with
      | true =>
        obtain rfl : py = false := by rcases HMY.out with h | h; cases h; exact h
        go_enter Try.func4, Try.ntmps4
        go_wp2_with (first
          | (go_at_call 6; (with_reducible refine (HL.out _ S0.out.bel).mono ?_); rintro e1 w1 ⟨hb1, big, rfl, hb0⟩
             have HB0 : Hid (¬ big = true → nw ≤ 40) := Lib.hid fun h => by rw [← hnw]; exact hb0 (by simpa using h)
             have S := Lib.hid (S0.out.call hb1)
             have K := Lib.hid S.out.bel
             have x1 := S.out.kb
             have x2 := S.out.tb
             simp only [KK.flat, TN.flat, hnw] at x1 x2
             have f0 := x1.cell 0
             have f1 := x1.cell 1
             have f2 := x1.cell 2
             have f3 := x1.cell 3
             have f4 := x1.cell 4
             have f5 := x1.cell 5
             have f6 := x1.cell 6
             have f7 := x1.cell 7
             have f8 := x1.cell 8
             have f9 := x1.cell 9
             have f10 := x1.cell 10
             simp at f0 f1 f2 f3 f4 f5 f6 f7 f8 f9 f10
             have p0 := x2.cell 0
             have p1 := x2.cell 1
             have p2 := x2.cell 2
             have p3 := x2.cell 3
             simp at p0 p1 p2 p3
             clear hb1 x1 x2 hb0)
          | (go_at_call 7; (with_reducible refine (HH.out _).mono ?_); rintro e2 w2 ⟨rfl, hb2⟩
             replace K := Lib.hid (K.out.trans (hb2.mono K.out.size)))
          | (go_at_call 11; (with_reducible refine (HM.out _ S.out.bel (HB0.out (by assumption))).mono ?_); rintro e2 w2 ⟨hb2, A2, c2, rfl, -, -⟩
             have HNW := Lib.hid (HB0.out (by assumption))
             replace S := Lib.hid (S.out.call hb2)
             replace K := Lib.hid S.out.bel
             have x1 := S.out.kb
             have x2 := S.out.tb
             simp only [KK.flat, TN.flat, hnw] at x1 x2
             clear f0 f1 f2 f3 f4 f5 f6 f7 f8 f9 f10 p0 p1 p2 p3
             have f0 := x1.cell 0
             have f1 := x1.cell 1
             have f2 := x1.cell 2
             have f3 := x1.cell 3
             have f4 := x1.cell 4
             have f5 := x1.cell 5
             have f6 := x1.cell 6
             have f7 := x1.cell 7
             have f8 := x1.cell 8
             have f9 := x1.cell 9
             have f10 := x1.cell 10
             simp at f0 f1 f2 f3 f4 f5 f6 f7 f8 f9 f10
             have p0 := x2.cell 0
             have p1 := x2.cell 1
             have p2 := x2.cell 2
             have p3 := x2.cell 3
             simp at p0 p1 p2 p3
             clear hb2 x1 x2)
          | (go_at_call 12; (with_reducible refine (HK.out _ S.out.bel).mono ?_); rintro e2 w2 ⟨rfl, hb2⟩
             replace S := Lib.hid (S.out.call hb2)
             replace K := Lib.hid S.out.bel
             have x1 := S.out.kb
             have x2 := S.out.tb
             simp only [KK.flat, TN.flat, hnw] at x1 x2
             clear f0 f1 f2 f3 f4 f5 f6 f7 f8 f9 f10 p0 p1 p2 p3
             have f0 := x1.cell 0
             have f1 := x1.cell 1
             have f2 := x1.cell 2
             have f3 := x1.cell 3
             have f4 := x1.cell 4
             have f5 := x1.cell 5
             have f6 := x1.cell 6
             have f7 := x1.cell 7
             have f8 := x1.cell 8
             have f9 := x1.cell 9
             have f10 := x1.cell 10
             simp at f0 f1 f2 f3 f4 f5 f6 f7 f8 f9 f10
             have p0 := x2.cell 0
             have p1 := x2.cell 1
             have p2 := x2.cell 2
             have p3 := x2.cell 3
             simp at p0 p1 p2 p3
             clear hb2 x1 x2)
          | (go_at_call 13; (with_reducible refine (HY.out _ S.out.bel HNW.out).mono ?_); rintro e2 w2 ⟨rfl, hb2⟩
             replace S := Lib.hid (S.out.call hb2)
             replace K := Lib.hid S.out.bel
             have x1 := S.out.kb
             have x2 := S.out.tb
             simp only [KK.flat, TN.flat, hnw] at x1 x2
             clear f0 f1 f2 f3 f4 f5 f6 f7 f8 f9 f10 p0 p1 p2 p3
             have f0 := x1.cell 0
             have f1 := x1.cell 1
             have f2 := x1.cell 2
             have f3 := x1.cell 3
             have f4 := x1.cell 4
             have f5 := x1.cell 5
             have f6 := x1.cell 6
             have f7 := x1.cell 7
             have f8 := x1.cell 8
             have f9 := x1.cell 9
             have f10 := x1.cell 10
             simp at f0 f1 f2 f3 f4 f5 f6 f7 f8 f9 f10
             have p0 := x2.cell 0
             have p1 := x2.cell 1
             have p2 := x2.cell 2
             have p3 := x2.cell 3
             simp at p0 p1 p2 p3
             clear hb2 x1 x2)
          | (go_at_call 14; (with_reducible refine (HC.out _ S.out.bel HNW.out).mono ?_); rintro e2 w2 ⟨rfl, hb2⟩
             replace S := Lib.hid (S.out.call hb2)
             replace K := Lib.hid S.out.bel
             clear hb2))
        all_goals go_ret
        all_goals exact ⟨rfl, K.out⟩
      | false =>
        go_enter Try.func4, Try.ntmps4
        go_wp2_with (first
          | (go_at_call 6; (with_reducible refine (HL.out _ S0.out.bel).mono ?_); rintro e1 w1 ⟨hb1, big, rfl, hb0⟩
             have HB0 : Hid (¬ big = true → nw ≤ 40) := Lib.hid fun h => by rw [← hnw]; exact hb0 (by simpa using h)
             have S := Lib.hid (S0.out.call hb1)
             have K := Lib.hid S.out.bel
             have x1 := S.out.kb
             have x2 := S.out.tb
             simp only [KK.flat, TN.flat, hnw] at x1 x2
             have f0 := x1.cell 0
             have f1 := x1.cell 1
             have f2 := x1.cell 2
             have f3 := x1.cell 3
             have f4 := x1.cell 4
             have f5 := x1.cell 5
             have f6 := x1.cell 6
             have f7 := x1.cell 7
             have f8 := x1.cell 8
             have f9 := x1.cell 9
             have f10 := x1.cell 10
             simp at f0 f1 f2 f3 f4 f5 f6 f7 f8 f9 f10
             have p0 := x2.cell 0
             have p1 := x2.cell 1
             have p2 := x2.cell 2
             have p3 := x2.cell 3
             simp at p0 p1 p2 p3
             clear hb1 x1 x2 hb0)
          | (go_at_call 7; (with_reducible refine (HH.out _).mono ?_); rintro e2 w2 ⟨rfl, hb2⟩
             replace K := Lib.hid (K.out.trans (hb2.mono K.out.size)))
          | (go_at_call 11; (with_reducible refine (HM.out _ S.out.bel (HB0.out (by assumption))).mono ?_); rintro e2 w2 ⟨hb2, A2, c2, rfl, -, -⟩
             have HNW := Lib.hid (HB0.out (by assumption))
             replace S := Lib.hid (S.out.call hb2)
             replace K := Lib.hid S.out.bel
             have x1 := S.out.kb
             have x2 := S.out.tb
             simp only [KK.flat, TN.flat, hnw] at x1 x2
             clear f0 f1 f2 f3 f4 f5 f6 f7 f8 f9 f10 p0 p1 p2 p3
             have f0 := x1.cell 0
             have f1 := x1.cell 1
             have f2 := x1.cell 2
             have f3 := x1.cell 3
             have f4 := x1.cell 4
             have f5 := x1.cell 5
             have f6 := x1.cell 6
             have f7 := x1.cell 7
             have f8 := x1.cell 8
             have f9 := x1.cell 9
             have f10 := x1.cell 10
             simp at f0 f1 f2 f3 f4 f5 f6 f7 f8 f9 f10
             have p0 := x2.cell 0
             have p1 := x2.cell 1
             have p2 := x2.cell 2
             have p3 := x2.cell 3
             simp at p0 p1 p2 p3
             clear hb2 x1 x2)
          | (go_at_call 12; (with_reducible refine (HK.out _ S.out.bel).mono ?_); rintro e2 w2 ⟨rfl, hb2⟩
             replace S := Lib.hid (S.out.call hb2)
             replace K := Lib.hid S.out.bel
             have x1 := S.out.kb
             have x2 := S.out.tb
             simp only [KK.flat, TN.flat, hnw] at x1 x2
             clear f0 f1 f2 f3 f4 f5 f6 f7 f8 f9 f10 p0 p1 p2 p3
             have f0 := x1.cell 0
             have f1 := x1.cell 1
             have f2 := x1.cell 2
             have f3 := x1.cell 3
             have f4 := x1.cell 4
             have f5 := x1.cell 5
             have f6 := x1.cell 6
             have f7 := x1.cell 7
             have f8 := x1.cell 8
             have f9 := x1.cell 9
             have f10 := x1.cell 10
             simp at f0 f1 f2 f3 f4 f5 f6 f7 f8 f9 f10
             have p0 := x2.cell 0
             have p1 := x2.cell 1
             have p2 := x2.cell 2
             have p3 := x2.cell 3
             simp at p0 p1 p2 p3
             clear hb2 x1 x2)
          | (go_at_call 13; (with_reducible refine (HY.out _ S.out.bel HNW.out).mono ?_); rintro e2 w2 ⟨rfl, hb2⟩
             replace S := Lib.hid (S.out.call hb2)
             replace K := Lib.hid S.out.bel
             have x1 := S.out.kb
             have x2 := S.out.tb
             simp only [KK.flat, TN.flat, hnw] at x1 x2
             clear f0 f1 f2 f3 f4 f5 f6 f7 f8 f9 f10 p0 p1 p2 p3
             have f0 := x1.cell 0
             have f1 := x1.cell 1
             have f2 := x1.cell 2
             have f3 := x1.cell 3
             have f4 := x1.cell 4
             have f5 := x1.cell 5
             have f6 := x1.cell 6
             have f7 := x1.cell 7
             have f8 := x1.cell 8
             have f9 := x1.cell 9
             have f10 := x1.cell 10
             simp at f0 f1 f2 f3 f4 f5 f6 f7 f8 f9 f10
             have p0 := x2.cell 0
             have p1 := x2.cell 1
             have p2 := x2.cell 2
             have p3 := x2.cell 3
             simp at p0 p1 p2 p3
             clear hb2 x1 x2)
          | (go_at_call 14; (with_reducible refine (HC.out _ S.out.bel HNW.out).mono ?_); rintro e2 w2 ⟨rfl, hb2⟩
             replace S := Lib.hid (S.out.call hb2)
             replace K := Lib.hid S.out.bel
             clear hb2))
        all_goals go_ret
        all_goals exact ⟨rfl, K.out⟩
    · clear HERR HNE
      go_enter Try.func4, Try.ntmps4
      go_wp2_with (first
          | (go_at_call 6; (with_reducible refine (HL.out _ S0.out.bel).mono ?_); rintro e1 w1 ⟨hb1, big, rfl, hb0⟩
             have HB0 : Hid (¬ big = true → nw ≤ 40) := Lib.hid fun h => by rw [← hnw]; exact hb0 (by simpa using h)
             have S := Lib.hid (S0.out.call hb1)
             have K := Lib.hid S.out.bel
             have x1 := S.out.kb
             have x2 := S.out.tb
             simp only [KK.flat, TN.flat, hnw] at x1 x2
             have f0 := x1.cell 0
             have f1 := x1.cell 1
             have f2 := x1.cell 2
             have f3 := x1.cell 3
             have f4 := x1.cell 4
             have f5 := x1.cell 5
             have f6 := x1.cell 6
             have f7 := x1.cell 7
             have f8 := x1.cell 8
             have f9 := x1.cell 9
             have f10 := x1.cell 10
             simp at f0 f1 f2 f3 f4 f5 f6 f7 f8 f9 f10
             have p0 := x2.cell 0
             have p1 := x2.cell 1
             have p2 := x2.cell 2
             have p3 := x2.cell 3
             simp at p0 p1 p2 p3
             clear hb1 x1 x2 hb0)
          | (go_at_call 7; (with_reducible refine (HH.out _).mono ?_); rintro e2 w2 ⟨rfl, hb2⟩
             replace K := Lib.hid (K.out.trans (hb2.mono K.out.size)))
          | (go_at_call 11; (with_reducible refine (HM.out _ S.out.bel (HB0.out (by assumption))).mono ?_); rintro e2 w2 ⟨hb2, A2, c2, rfl, -, -⟩
             have HNW := Lib.hid (HB0.out (by assumption))
             replace S := Lib.hid (S.out.call hb2)
             replace K := Lib.hid S.out.bel
             have x1 := S.out.kb
             have x2 := S.out.tb
             simp only [KK.flat, TN.flat, hnw] at x1 x2
             clear f0 f1 f2 f3 f4 f5 f6 f7 f8 f9 f10 p0 p1 p2 p3
             have f0 := x1.cell 0
             have f1 := x1.cell 1
             have f2 := x1.cell 2
             have f3 := x1.cell 3
             have f4 := x1.cell 4
             have f5 := x1.cell 5
             have f6 := x1.cell 6
             have f7 := x1.cell 7
             have f8 := x1.cell 8
             have f9 := x1.cell 9
             have f10 := x1.cell 10
             simp at f0 f1 f2 f3 f4 f5 f6 f7 f8 f9 f10
             have p0 := x2.cell 0
             have p1 := x2.cell 1
             have p2 := x2.cell 2
             have p3 := x2.cell 3
             simp at p0 p1 p2 p3
             clear hb2 x1 x2)
          | (go_at_call 12; (with_reducible refine (HK.out _ S.out.bel).mono ?_); rintro e2 w2 ⟨rfl, hb2⟩
             replace S := Lib.hid (S.out.call hb2)
             replace K := Lib.hid S.out.bel
             have x1 := S.out.kb
             have x2 := S.out.tb
             simp only [KK.flat, TN.flat, hnw] at x1 x2
             clear f0 f1 f2 f3 f4 f5 f6 f7 f8 f9 f10 p0 p1 p2 p3
             have f0 := x1.cell 0
             have f1 := x1.cell 1
             have f2 := x1.cell 2
             have f3 := x1.cell 3
             have f4 := x1.cell 4
             have f5 := x1.cell 5
             have f6 := x1.cell 6
             have f7 := x1.cell 7
             have f8 := x1.cell 8
             have f9 := x1.cell 9
             have f10 := x1.cell 10
             simp at f0 f1 f2 f3 f4 f5 f6 f7 f8 f9 f10
             have p0 := x2.cell 0
             have p1 := x2.cell 1
             have p2 := x2.cell 2
             have p3 := x2.cell 3
             simp at p0 p1 p2 p3
             clear hb2 x1 x2)
          | (go_at_call 13; (with_reducible refine (HY.out _ S.out.bel HNW.out).mono ?_); rintro e2 w2 ⟨rfl, hb2⟩
             replace S := Lib.hid (S.out.call hb2)
             replace K := Lib.hid S.out.bel
             have x1 := S.out.kb
             have x2 := S.out.tb
             simp only [KK.flat, TN.flat, hnw] at x1 x2
             clear f0 f1 f2 f3 f4 f5 f6 f7 f8 f9 f10 p0 p1 p2 p3
             have f0 := x1.cell 0
             have f1 := x1.cell 1
             have f2 := x1.cell 2
             have f3 := x1.cell 3
             have f4 := x1.cell 4
             have f5 := x1.cell 5
             have f6 := x1.cell 6
             have f7 := x1.cell 7
             have f8 := x1.cell 8
             have f9 := x1.cell 9
             have f10 := x1.cell 10
             simp at f0 f1 f2 f3 f4 f5 f6 f7 f8 f9 f10
             have p0 := x2.cell 0
             have p1 := x2.cell 1
             have p2 := x2.cell 2
             have p3 := x2.cell 3
             simp at p0 p1 p2 p3
             clear hb2 x1 x2)
          | (go_at_call 14; (with_reducible refine (HC.out _ S.out.bel HNW.out).mono ?_); rintro e2 w2 ⟨rfl, hb2⟩
             replace S := Lib.hid (S.out.call hb2)
             replace K := Lib.hid S.out.bel
             clear hb2))
      all_goals go_ret
      all_goals exact ⟨rfl, K.out⟩
end Go.Proofs.Ytekamebpjjkifaa
