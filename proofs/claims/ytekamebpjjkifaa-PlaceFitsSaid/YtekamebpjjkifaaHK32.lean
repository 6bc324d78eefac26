/- Texts that belong together, joined: what each one holds is told ahead of it. -/
import Derived.Test.YtekamebpjjkifaaHK29
import Derived.Test.YtekamebpjjkifaaHK31
/- How many processes are left, in the document: left, its loops. -/
namespace Go.Proofs.Ytekamebpjjkifaa
open Go.RowKit
set_option linter.unusedSimpArgs false
set_option linter.unusedVariables false

set_option maxRecDepth 100000 in
set_option maxHeartbeats 8000000 in
theorem rLeft_f (k : KK) (ok : KOk k) (p : KP) (hil : ∀ x ∈ p.l, LeftOk k x) (hig : ∀ g ∈ p.g, ∀ x ∈ g.body, LeftOk k x) (deep n : Nat) (B : Nat) (w : World) (hd : deep < 32) (hn : n ≤ 2048) (hn0 : n ≠ 0) (hk : k.In w B) (hi : p.In w B) (hB : B ≤ w.heap.size)
    (hl : looksB p = true) (ht : typedB k.vars k.chans.length p = true) (h11 : p.kind ≠ 11) :
    Calls Try.prog 29 #[.agg (innerV k deep false), .agg p.cells, .int .i64 n] w (RetV (.int .i64 (roomZ (behindG k.vars k.chans.length (deep + 1) false (roomPs k.vars k.chans.length (deep + 1) false false (n - 1) p.l) p.g))) w) := by
  obtain ⟨W0, hW0⟩ : ∃ W, (w.alloc (.cells (innerV k deep false) 86)).alloc (.cells p.cells 31) = W := ⟨_, rfl⟩
  obtain ⟨l1, l2, l3⟩ := lay2 w (innerV k deep false) p.cells 86 31
  rw [hW0] at l1 l2 l3
  have HW : Hid (∀ w1 : World, Below w.heap.size w w1 → k.In w1 B ∧ p.In w1 B ∧ B ≤ w1.heap.size) := Lib.hid fun w1 hb => ⟨hk.below (hb.mono hB), hi.below (hb.mono hB), Nat.le_trans hB hb.size⟩
  have hone := hi.one.1
  have hlen := hone.2.2.2.2.2
  have hlen2 := hone.2.2.2.2.1
  unfold lenOk at hlen hlen2
  obtain ⟨m, hm⟩ : ∃ m, p.l.length = m := ⟨_, rfl⟩
  obtain ⟨mg, hmg⟩ : ∃ m, p.g.length = m := ⟨_, rfl⟩
  have HM := Lib.hid hm
  have HMG := Lib.hid hmg
  rw [hm] at hlen
  rw [hmg] at hlen2
  have S : Hid (LfAt w W0 (innerV k deep false) p.cells) := Lib.hid ⟨l1, l2, l3⟩
  have HL := Lib.hid (fun w1 => rLooks p w1)
  have HT := Lib.hid (fun (w1 : World) (hb : Below w.heap.size w w1) => rTyped k p hl B w1 (HW.out w1 hb).1 ok (HW.out w1 hb).2.1.one (HW.out w1 hb).2.2)
  have y : ((deep : Int) == 32) = false := by simp; omega
  have y0 : ((n : Int) == 0) = false := by simp; omega
  have y11 : ((p.kind : Int) == 11) = false := by simp; omega
  rw [hl] at HL
  rw [ht] at HT
  have HIL := Lib.hid hil
  have HIG := Lib.hid hig
  have HGB : Hid (∀ g ∈ p.g, ∃ q, g.body = [q]) := Lib.hid fun g hg => by
    have hc : checkB k.vars k.chans.length p = true := by rw [checkB_ref, hl, ht]; rfl
    obtain ⟨c, hgb⟩ := checkB_guards hc g hg
    exact guardB_body hgb
  have hn1 : (n : Int) - 1 = ((n - 1 : Nat) : Int) := by omega
  have HN1 := Lib.hid hn1
  simp only [innerV, KP.cells, KK.flat, hm, hmg] at l2 l3 hW0 S HL HT ⊢
  have q0 := l2.cell 0
  have q1 := l2.cell 1
  have q2 := l2.cell 2
  have q3 := l2.cell 3
  have q4 := l2.cell 4
  have q5 := l2.cell 5
  have q6 := l2.cell 6
  have q7 := l2.cell 7
  have q8 := l2.cell 8
  have q9 := l2.cell 9
  have q10 := l2.cell 10
  have q11 := l2.cell 11
  have q12 := l2.cell 12
  simp at q0 q1 q2 q3 q4 q5 q6 q7 q8 q9 q10 q11 q12
  have e0 := l3.cell 0
  have e1 := l3.cell 1
  have e2 := l3.cell 2
  have e3 := l3.cell 3
  have e4 := l3.cell 4
  have e5 := l3.cell 5
  have e6 := l3.cell 6
  have e7 := l3.cell 7
  simp at e0 e1 e2 e3 e4 e5 e6 e7
  clear l1 l2 l3 hk hi hm hmg hone hl ht h11 hil hig hn1
  go_enter Try.func29, Try.ntmps29
  go_upto_block 0 with (first
    | (go_at_call 40; (with_reducible refine (HL.out _).mono ?_); rintro e1 w1 ⟨rfl, hb1⟩
       replace S := Lib.hid (S.out.call hb1)
       have x1 := S.out.kb
       have x2 := S.out.pb
       have q0 := x1.cell 0
       have q1 := x1.cell 1
       have q2 := x1.cell 2
       have q3 := x1.cell 3
       have q4 := x1.cell 4
       have q5 := x1.cell 5
       have q6 := x1.cell 6
       have q7 := x1.cell 7
       have q8 := x1.cell 8
       have q9 := x1.cell 9
       have q10 := x1.cell 10
       have q11 := x1.cell 11
       have q12 := x1.cell 12
       simp at q0 q1 q2 q3 q4 q5 q6 q7 q8 q9 q10 q11 q12
       have e0 := x2.cell 0
       have e1 := x2.cell 1
       have e2 := x2.cell 2
       have e3 := x2.cell 3
       have e4 := x2.cell 4
       have e5 := x2.cell 5
       have e6 := x2.cell 6
       have e7 := x2.cell 7
       simp at e0 e1 e2 e3 e4 e5 e6 e7
       clear x1 x2 hb1)
    | (go_at_call 41; (with_reducible refine (HT.out _ S.out.bel).mono ?_); rintro e1 w1 ⟨rfl, hb1⟩
       replace S := Lib.hid (S.out.call hb1)
       have x1 := S.out.kb
       have x2 := S.out.pb
       have q0 := x1.cell 0
       have q1 := x1.cell 1
       have q2 := x1.cell 2
       have q3 := x1.cell 3
       have q4 := x1.cell 4
       have q5 := x1.cell 5
       have q6 := x1.cell 6
       have q7 := x1.cell 7
       have q8 := x1.cell 8
       have q9 := x1.cell 9
       have q10 := x1.cell 10
       have q11 := x1.cell 11
       have q12 := x1.cell 12
       simp at q0 q1 q2 q3 q4 q5 q6 q7 q8 q9 q10 q11 q12
       have e0 := x2.cell 0
       have e1 := x2.cell 1
       have e2 := x2.cell 2
       have e3 := x2.cell 3
       have e4 := x2.cell 4
       have e5 := x2.cell 5
       have e6 := x2.cell 6
       have e7 := x2.cell 7
       simp at e0 e1 e2 e3 e4 e5 e6 e7
       clear x1 x2 hb1))
  clear HL HT
  go_cut [2] (fun s2 wx => s2 = .int .i64 (roomZ (roomPs k.vars k.chans.length (deep + 1) false false (n - 1) p.l)) ∧ Hid (LfAt w wx #[.slice k.Av k.vars.length k.cv, .slice k.Ac k.chans.length k.cc, .int .u8 k.root.kind, .int .i64 k.root.c, .int .i64 k.root.v, .int .u8 k.root.item, .slice k.root.At k.root.tos.length k.root.ct, .slice k.root.Ae k.root.e.length k.root.ce, .slice k.root.Ag k.root.g.length k.root.cg, .slice k.root.Al k.root.l.length k.root.cl, .slice k.Ap k.procs.length k.cp, .int .i64 deep, .bool false] #[.int .u8 p.kind, .int .i64 p.c, .int .i64 p.v, .int .u8 p.item, .slice p.At p.tos.length p.ct, .slice p.Ae p.e.length p.ce, .slice p.Ag mg p.cg, .slice p.Al m p.cl]))
  case first =>
    go_wp2_with fail
    go_loopw [2, 7] (fun v i wr => ∃ (j : Nat) (so : Option Nat), j ≤ m ∧ i = .int .i64 j ∧ v = .int .i64 (roomZ so) ∧ Hid (LfAt w wr #[.slice k.Av k.vars.length k.cv, .slice k.Ac k.chans.length k.cc, .int .u8 k.root.kind, .int .i64 k.root.c, .int .i64 k.root.v, .int .u8 k.root.item, .slice k.root.At k.root.tos.length k.root.ct, .slice k.root.Ae k.root.e.length k.root.ce, .slice k.root.Ag k.root.g.length k.root.cg, .slice k.root.Al k.root.l.length k.root.cl, .slice k.Ap k.procs.length k.cp, .int .i64 deep, .bool false] #[.int .u8 p.kind, .int .i64 p.c, .int .i64 p.v, .int .u8 p.item, .slice p.At p.tos.length p.ct, .slice p.Ae p.e.length p.ce, .slice p.Ag mg p.cg, .slice p.Al m p.cl]) ∧ Hid (roomPs k.vars k.chans.length (deep + 1) false false (n - 1) (p.l.take j) = so) ∧ Hid (∀ r, so = some r → r ≤ 2048)) (fun _ i _ => m - (intOf i).toNat)
    case atStart => exact ⟨0, some (n - 1), Nat.zero_le _, rfl, by rw [HN1.out]; rfl, S, Lib.hid (by rw [List.take_zero, roomPs]), Lib.hid (fun r h => by injection h with h; omega)⟩
    case round =>
      clear S q0 q1 q2 q3 q4 q5 q6 q7 q8 q9 q10 q11 q12 e0 e1 e2 e3 e4 e5 e6 e7
      obtain ⟨j, so, hj, rfl, rfl, S, HST, HRR⟩ := hrel
      have x1 := S.out.kb
      have x2 := S.out.pb
      have hkw := x1.lt
      have hpw := x2.lt
      have q0 := x1.cell 0
      have q1 := x1.cell 1
      have q2 := x1.cell 2
      have q3 := x1.cell 3
      have q4 := x1.cell 4
      have q5 := x1.cell 5
      have q6 := x1.cell 6
      have q7 := x1.cell 7
      have q8 := x1.cell 8
      have q9 := x1.cell 9
      have q10 := x1.cell 10
      have q11 := x1.cell 11
      have q12 := x1.cell 12
      simp at q0 q1 q2 q3 q4 q5 q6 q7 q8 q9 q10 q11 q12
      have e0 := x2.cell 0
      have e1 := x2.cell 1
      have e2 := x2.cell 2
      have e3 := x2.cell 3
      have e4 := x2.cell 4
      have e5 := x2.cell 5
      have e6 := x2.cell 6
      have e7 := x2.cell 7
      simp at e0 e1 e2 e3 e4 e5 e6 e7
      clear x1 x2
      by_cases hlt : j < m
      · have hltI : (j : Int) < m := by omega
        cases so with
        | none =>
          have HXX := Lib.hid (roomPs_take_none HST.out)
          simp only [roomZ]
          go_wp2_with fail
          go_meet
          exact ⟨by rw [HXX.out]; rfl, S⟩
        | some r =>
          have hr2 := HRR.out r rfl
          have hst := HST.out
          have hin := HW.out wr S.out.bel
          obtain ⟨b, off, x, hA, hb, hx, hmx, c0, c1, c2, c3, c4, c5, c6, c7⟩ := kps_at hin.2.1.one.2.2.2.2 rfl (k := j) (by rw [HM.out]; exact hlt)
          have hbw : b < wr.heap.size := Nat.lt_of_lt_of_le hb hin.2.2
          rw [hA] at e7
          simp only [roomZ]
          have HC : Hid (∀ w1 : World, Below wr.heap.size wr w1 → Calls Try.prog 29 #[.agg (innerV k ((deep : Int) + 1) false), .agg x.cells, .int .i64 r] w1 (RetV (.int .i64 (roomZ (roomP k.vars k.chans.length (deep + 1) false r x))) w1)) := Lib.hid fun w1 h => by
            have h1 := HW.out w1 (S.out.bel.trans (h.mono S.out.bel.size))
            have h2 := HIL.out x hmx (deep + 1) r false B w1 (by omega) hr2 h1.1 (h1.2.1.part hmx) h1.2.2
            have h3 : ((deep + 1 : Nat) : Int) = (deep : Int) + 1 := by omega
            rw [h3] at h2
            exact h2
          have hsn := roomPs_snoc (vs := k.vars) (nc := k.chans.length) (deep := deep + 1) (high := false) (first := false) (left := n - 1) hx hst
          have hb2 : (false || (false && decide (j = 0))) = false := rfl
          rw [hb2] at hsn
          have HSN : Hid (roomPs k.vars k.chans.length (deep + 1) false false (n - 1) (p.l.take (j + 1)) = roomP k.vars k.chans.length (deep + 1) false r x) := Lib.hid hsn
          have HRL : Hid (∀ r2, roomP k.vars k.chans.length (deep + 1) false r x = some r2 → r2 ≤ r) := Lib.hid fun r2 h => roomP_le x _ _ _ _ h
          generalize roomP k.vars k.chans.length (deep + 1) false r x = so2 at *
          simp only [innerV, KP.cells] at HC
          clear hx hmx hA hst hsn hin
          go_upto_region 7 with fail
          obtain ⟨ι, F, i0', h0', hFb, hcl⟩ := fam_below wr
          have Fq0 := fun i => ((hFb i).cell (p := ⟨w.heap.size, 0, none⟩) hkw).trans q0
          have Fq1 := fun i => ((hFb i).cell (p := ⟨w.heap.size, 1, none⟩) hkw).trans q1
          have Fq2 := fun i => ((hFb i).cell (p := ⟨w.heap.size, 2, none⟩) hkw).trans q2
          have Fq3 := fun i => ((hFb i).cell (p := ⟨w.heap.size, 3, none⟩) hkw).trans q3
          have Fq4 := fun i => ((hFb i).cell (p := ⟨w.heap.size, 4, none⟩) hkw).trans q4
          have Fq5 := fun i => ((hFb i).cell (p := ⟨w.heap.size, 5, none⟩) hkw).trans q5
          have Fq6 := fun i => ((hFb i).cell (p := ⟨w.heap.size, 6, none⟩) hkw).trans q6
          have Fq7 := fun i => ((hFb i).cell (p := ⟨w.heap.size, 7, none⟩) hkw).trans q7
          have Fq8 := fun i => ((hFb i).cell (p := ⟨w.heap.size, 8, none⟩) hkw).trans q8
          have Fq9 := fun i => ((hFb i).cell (p := ⟨w.heap.size, 9, none⟩) hkw).trans q9
          have Fq10 := fun i => ((hFb i).cell (p := ⟨w.heap.size, 10, none⟩) hkw).trans q10
          have Fq11 := fun i => ((hFb i).cell (p := ⟨w.heap.size, 11, none⟩) hkw).trans q11
          have Fq12 := fun i => ((hFb i).cell (p := ⟨w.heap.size, 12, none⟩) hkw).trans q12
          have Fe0 := fun i => ((hFb i).cell (p := ⟨w.heap.size + 1, 0, none⟩) hpw).trans e0
          have Fe7 := fun i => ((hFb i).cell (p := ⟨w.heap.size + 1, 7, none⟩) hpw).trans e7
          have Fc0 := fun i => ((hFb i).cell (p := ⟨b, off + j * 8, none⟩) hbw).trans c0
          have Fc1 := fun i => ((hFb i).cell (p := ⟨b, off + j * 8 + 1, none⟩) hbw).trans c1
          have Fc2 := fun i => ((hFb i).cell (p := ⟨b, off + j * 8 + 2, none⟩) hbw).trans c2
          have Fc3 := fun i => ((hFb i).cell (p := ⟨b, off + j * 8 + 3, none⟩) hbw).trans c3
          have Fc4 := fun i => ((hFb i).cell (p := ⟨b, off + j * 8 + 4, none⟩) hbw).trans c4
          have Fc5 := fun i => ((hFb i).cell (p := ⟨b, off + j * 8 + 5, none⟩) hbw).trans c5
          have Fc6 := fun i => ((hFb i).cell (p := ⟨b, off + j * 8 + 6, none⟩) hbw).trans c6
          have Fc7 := fun i => ((hFb i).cell (p := ⟨b, off + j * 8 + 7, none⟩) hbw).trans c7
          have HCF := Lib.hid (fun i => HC.out (F i) (hFb i))
          haveI : Nonempty ι := ⟨i0'⟩
          refine wp_region_quiet_fam F i0' h0' (by kernel_rfl) (by kernel_rfl) ?_
          repeat (go_big_quiet_step (first
            | (go_at_call 29; refine (HCF.out _).mono ?_; rintro e w4 ⟨rfl, hb4⟩; exact ⟨rfl, hcl _ _ hb4⟩)))
          refine wpQuiet_nil ?_
          intro i
          have S5 := Lib.hid (S.out.call (hFb i))
          clear HCF 
          go_wp2
          go_roundw
          case rel => exact ⟨j + 1, so2, by omega, by go_num, rfl, S5, HSN, Lib.hid (fun r2 h => Nat.le_trans (HRL.out r2 h) hr2)⟩
          case measure => simp [intOf]; omega
      · have hltI : ¬ (j : Int) < m := by omega
        obtain rfl : m = j := by omega
        have htk : p.l.take m = p.l := List.take_of_length_le (by rw [HM.out]; omega)
        have hst := HST.out
        rw [htk] at hst
        have HXX := Lib.hid hst
        clear htk hst
        go_wp2_with fail
        go_meet
        exact ⟨by rw [HXX.out], S⟩
  case rest =>
    obtain ⟨rfl, S⟩ := hcut
    have HS1 : Hid (∀ r, roomPs k.vars k.chans.length (deep + 1) false false (n - 1) p.l = some r → r ≤ 2048) := Lib.hid fun r h => by have := roomPs_le h; omega
    generalize roomPs k.vars k.chans.length (deep + 1) false false (n - 1) p.l = s1 at *
    clear HIL q0 q1 q2 q3 q4 q5 q6 q7 q8 q9 q10 q11 q12 e0 e1 e2 e3 e4 e5 e6 e7
    go_wp2_with fail
    go_loopw [2, 8] (fun v i wr => ∃ (j : Nat) (so : Option Nat), j ≤ mg ∧ i = .int .i64 j ∧ v = .int .i64 (roomZ so) ∧ Hid (LfAt w wr #[.slice k.Av k.vars.length k.cv, .slice k.Ac k.chans.length k.cc, .int .u8 k.root.kind, .int .i64 k.root.c, .int .i64 k.root.v, .int .u8 k.root.item, .slice k.root.At k.root.tos.length k.root.ct, .slice k.root.Ae k.root.e.length k.root.ce, .slice k.root.Ag k.root.g.length k.root.cg, .slice k.root.Al k.root.l.length k.root.cl, .slice k.Ap k.procs.length k.cp, .int .i64 deep, .bool false] #[.int .u8 p.kind, .int .i64 p.c, .int .i64 p.v, .int .u8 p.item, .slice p.At p.tos.length p.ct, .slice p.Ae p.e.length p.ce, .slice p.Ag mg p.cg, .slice p.Al m p.cl]) ∧ Hid (behindG k.vars k.chans.length (deep + 1) false s1 (p.g.take j) = so) ∧ Hid (∀ r, so = some r → r ≤ 2048)) (fun _ i _ => mg - (intOf i).toNat)
    case atStart => exact ⟨0, s1, Nat.zero_le _, rfl, rfl, S, Lib.hid behindG_nil, HS1⟩
    case round =>
      clear S HS1
      obtain ⟨j, so, hj, rfl, rfl, S, HST, HRR⟩ := hrel
      have x1 := S.out.kb
      have x2 := S.out.pb
      have hkw := x1.lt
      have hpw := x2.lt
      have q0 := x1.cell 0
      have q1 := x1.cell 1
      have q2 := x1.cell 2
      have q3 := x1.cell 3
      have q4 := x1.cell 4
      have q5 := x1.cell 5
      have q6 := x1.cell 6
      have q7 := x1.cell 7
      have q8 := x1.cell 8
      have q9 := x1.cell 9
      have q10 := x1.cell 10
      have q11 := x1.cell 11
      have q12 := x1.cell 12
      simp at q0 q1 q2 q3 q4 q5 q6 q7 q8 q9 q10 q11 q12
      have e0 := x2.cell 0
      have e1 := x2.cell 1
      have e2 := x2.cell 2
      have e3 := x2.cell 3
      have e4 := x2.cell 4
      have e5 := x2.cell 5
      have e6 := x2.cell 6
      have e7 := x2.cell 7
      simp at e0 e1 e2 e3 e4 e5 e6 e7
      clear x1 x2
      by_cases hlt : j < mg
      · have hltI : (j : Int) < mg := by omega
        cases so with
        | none =>
          have HXX := Lib.hid (behindG_take_none HST.out)
          simp only [roomZ]
          go_wp2
          go_ret
          exact ⟨by rw [HXX.out]; rfl, S.out.bel⟩
        | some r =>
          have hr2 := HRR.out r rfl
          have hst := HST.out
          have hin := HW.out wr S.out.bel
          obtain ⟨b, off, g, hA, hb, hx, hmx, hG⟩ := kgs_at hin.2.1.one.2.2.2.1.1 rfl (k := j) (by rw [HMG.out]; exact hlt)
          have hbw : b < wr.heap.size := Nat.lt_of_lt_of_le hb hin.2.2
          have g17 := hG.c17
          obtain ⟨qq, hq⟩ := HGB.out g hmx
          have hbo := (hin.2.1.one.2.2.2.1.2 g hmx).2.2.2.2
          obtain ⟨b2, off2, x, hA2, hb2, hx2, hmx2, c0, c1, c2, c3, c4, c5, c6, c7⟩ := kps_at hbo rfl (k := 0) (by rw [hq]; simp)
          have hxq : x = qq := by rw [hq] at hx2; simpa using hx2.symm
          subst hxq
          have hbw2 : b2 < wr.heap.size := Nat.lt_of_lt_of_le hb2 hin.2.2
          rw [hq] at g17
          rw [hA2] at g17
          rw [hA] at e6
          rw [Nat.zero_mul, Nat.add_zero] at c0 c1 c2 c3 c4 c5 c6 c7
          simp only [List.length_singleton] at g17
          simp only [roomZ]
          have HC : Hid (∀ w1 : World, Below wr.heap.size wr w1 → Calls Try.prog 29 #[.agg (innerV k ((deep : Int) + 1) false), .agg x.cells, .int .i64 r] w1 (RetV (.int .i64 (roomZ (roomP k.vars k.chans.length (deep + 1) false r x))) w1)) := Lib.hid fun w1 h => by
            have h1 := HW.out w1 (S.out.bel.trans (h.mono S.out.bel.size))
            have h2 := HIG.out g hmx x hmx2 (deep + 1) r false B w1 (by omega) hr2 h1.1 (h1.2.1.guard hmx hmx2) h1.2.2
            have h3 : ((deep + 1 : Nat) : Int) = (deep : Int) + 1 := by omega
            rw [h3] at h2
            exact h2
          have HSN := Lib.hid ((behindG_snoc hx hst).trans (roomG_one hq))
          have HRL : Hid (∀ r2, roomP k.vars k.chans.length (deep + 1) false r x = some r2 → r2 ≤ r) := Lib.hid fun r2 h => roomP_le x _ _ _ _ h
          generalize roomP k.vars k.chans.length (deep + 1) false r x = so2 at *
          simp only [innerV, KP.cells] at HC
          clear hx hmx hA hst hin hG hq hbo hx2 hmx2 hA2
          go_upto_region 11 with fail
          obtain ⟨ι, F, i0', h0', hFb, hcl⟩ := fam_below wr
          have Fq0 := fun i => ((hFb i).cell (p := ⟨w.heap.size, 0, none⟩) hkw).trans q0
          have Fq1 := fun i => ((hFb i).cell (p := ⟨w.heap.size, 1, none⟩) hkw).trans q1
          have Fq2 := fun i => ((hFb i).cell (p := ⟨w.heap.size, 2, none⟩) hkw).trans q2
          have Fq3 := fun i => ((hFb i).cell (p := ⟨w.heap.size, 3, none⟩) hkw).trans q3
          have Fq4 := fun i => ((hFb i).cell (p := ⟨w.heap.size, 4, none⟩) hkw).trans q4
          have Fq5 := fun i => ((hFb i).cell (p := ⟨w.heap.size, 5, none⟩) hkw).trans q5
          have Fq6 := fun i => ((hFb i).cell (p := ⟨w.heap.size, 6, none⟩) hkw).trans q6
          have Fq7 := fun i => ((hFb i).cell (p := ⟨w.heap.size, 7, none⟩) hkw).trans q7
          have Fq8 := fun i => ((hFb i).cell (p := ⟨w.heap.size, 8, none⟩) hkw).trans q8
          have Fq9 := fun i => ((hFb i).cell (p := ⟨w.heap.size, 9, none⟩) hkw).trans q9
          have Fq10 := fun i => ((hFb i).cell (p := ⟨w.heap.size, 10, none⟩) hkw).trans q10
          have Fq11 := fun i => ((hFb i).cell (p := ⟨w.heap.size, 11, none⟩) hkw).trans q11
          have Fq12 := fun i => ((hFb i).cell (p := ⟨w.heap.size, 12, none⟩) hkw).trans q12
          have Fe6 := fun i => ((hFb i).cell (p := ⟨w.heap.size + 1, 6, none⟩) hpw).trans e6
          have Fg17 := fun i => ((hFb i).cell (p := ⟨b, off + j * 18 + 17, none⟩) hbw).trans g17
          have Fc0 := fun i => ((hFb i).cell (p := ⟨b2, off2, none⟩) hbw2).trans c0
          have Fc1 := fun i => ((hFb i).cell (p := ⟨b2, off2 + 1, none⟩) hbw2).trans c1
          have Fc2 := fun i => ((hFb i).cell (p := ⟨b2, off2 + 2, none⟩) hbw2).trans c2
          have Fc3 := fun i => ((hFb i).cell (p := ⟨b2, off2 + 3, none⟩) hbw2).trans c3
          have Fc4 := fun i => ((hFb i).cell (p := ⟨b2, off2 + 4, none⟩) hbw2).trans c4
          have Fc5 := fun i => ((hFb i).cell (p := ⟨b2, off2 + 5, none⟩) hbw2).trans c5
          have Fc6 := fun i => ((hFb i).cell (p := ⟨b2, off2 + 6, none⟩) hbw2).trans c6
          have Fc7 := fun i => ((hFb i).cell (p := ⟨b2, off2 + 7, none⟩) hbw2).trans c7
          have HCF := Lib.hid (fun i => HC.out (F i) (hFb i))
          haveI : Nonempty ι := ⟨i0'⟩
          refine wp_region_quiet_fam F i0' h0' (by kernel_rfl) (by kernel_rfl) ?_
          repeat (go_big_quiet_step (first
            | (go_at_call 29; refine (HCF.out _).mono ?_; rintro e w4 ⟨rfl, hb4⟩; exact ⟨rfl, hcl _ _ hb4⟩)))
          refine wpQuiet_nil ?_
          intro i
          have S5 := Lib.hid (S.out.call (hFb i))
          clear HCF 
          go_wp2
          go_roundw
          case rel => exact ⟨j + 1, so2, by omega, by go_num, rfl, S5, HSN, Lib.hid (fun r2 h => Nat.le_trans (HRL.out r2 h) hr2)⟩
          case measure => simp [intOf]; omega
      · have hltI : ¬ (j : Int) < mg := by omega
        obtain rfl : mg = j := by omega
        have htk : p.g.take mg = p.g := List.take_of_length_le (by rw [HMG.out]; omega)
        have hst := HST.out
        rw [htk] at hst
        have HXX := Lib.hid hst
        clear htk hst
        go_wp2
        go_ret
        exact ⟨by rw [HXX.out]; rfl, S.out.bel⟩
end Go.Proofs.Ytekamebpjjkifaa

/- How many processes are left, in the document: left, its loops. -/
namespace Go.Proofs.Ytekamebpjjkifaa
open Go.RowKit
set_option linter.unusedSimpArgs false
set_option linter.unusedVariables false

set_option maxRecDepth 100000 in
set_option maxHeartbeats 8000000 in
theorem rLeft_p (k : KK) (ok : KOk k) (p : KP) (hil : ∀ x ∈ p.l, LeftOk k x) (hig : ∀ g ∈ p.g, ∀ x ∈ g.body, LeftOk k x) (deep n : Nat) (B : Nat) (w : World) (hd : deep < 32) (hn : n ≤ 2048) (hn0 : n ≠ 0) (hk : k.In w B) (hi : p.In w B) (hB : B ≤ w.heap.size)
    (hl : looksB p = true) (ht : typedB k.vars k.chans.length p = true) (h11 : p.kind = 11) :
    Calls Try.prog 29 #[.agg (innerV k deep false), .agg p.cells, .int .i64 n] w (RetV (.int .i64 (roomZ (behindG k.vars k.chans.length (deep + 1) false (roomPs k.vars k.chans.length (deep + 1) false true (n - 1) p.l) p.g))) w) := by
  obtain ⟨W0, hW0⟩ : ∃ W, (w.alloc (.cells (innerV k deep false) 86)).alloc (.cells p.cells 31) = W := ⟨_, rfl⟩
  obtain ⟨l1, l2, l3⟩ := lay2 w (innerV k deep false) p.cells 86 31
  rw [hW0] at l1 l2 l3
  have HW : Hid (∀ w1 : World, Below w.heap.size w w1 → k.In w1 B ∧ p.In w1 B ∧ B ≤ w1.heap.size) := Lib.hid fun w1 hb => ⟨hk.below (hb.mono hB), hi.below (hb.mono hB), Nat.le_trans hB hb.size⟩
  have hone := hi.one.1
  have hlen := hone.2.2.2.2.2
  have hlen2 := hone.2.2.2.2.1
  unfold lenOk at hlen hlen2
  obtain ⟨m, hm⟩ : ∃ m, p.l.length = m := ⟨_, rfl⟩
  obtain ⟨mg, hmg⟩ : ∃ m, p.g.length = m := ⟨_, rfl⟩
  have HM := Lib.hid hm
  have HMG := Lib.hid hmg
  rw [hm] at hlen
  rw [hmg] at hlen2
  have S : Hid (LfAt w W0 (innerV k deep false) p.cells) := Lib.hid ⟨l1, l2, l3⟩
  have HL := Lib.hid (fun w1 => rLooks p w1)
  have HT := Lib.hid (fun (w1 : World) (hb : Below w.heap.size w w1) => rTyped k p hl B w1 (HW.out w1 hb).1 ok (HW.out w1 hb).2.1.one (HW.out w1 hb).2.2)
  have y : ((deep : Int) == 32) = false := by simp; omega
  have y0 : ((n : Int) == 0) = false := by simp; omega
  have y11 : ((p.kind : Int) == 11) = true := by simp; omega
  rw [hl] at HL
  rw [ht] at HT
  have HIL := Lib.hid hil
  have HIG := Lib.hid hig
  have HGB : Hid (∀ g ∈ p.g, ∃ q, g.body = [q]) := Lib.hid fun g hg => by
    have hc : checkB k.vars k.chans.length p = true := by rw [checkB_ref, hl, ht]; rfl
    obtain ⟨c, hgb⟩ := checkB_guards hc g hg
    exact guardB_body hgb
  have hn1 : (n : Int) - 1 = ((n - 1 : Nat) : Int) := by omega
  have HN1 := Lib.hid hn1
  simp only [innerV, KP.cells, KK.flat, hm, hmg] at l2 l3 hW0 S HL HT ⊢
  have q0 := l2.cell 0
  have q1 := l2.cell 1
  have q2 := l2.cell 2
  have q3 := l2.cell 3
  have q4 := l2.cell 4
  have q5 := l2.cell 5
  have q6 := l2.cell 6
  have q7 := l2.cell 7
  have q8 := l2.cell 8
  have q9 := l2.cell 9
  have q10 := l2.cell 10
  have q11 := l2.cell 11
  have q12 := l2.cell 12
  simp at q0 q1 q2 q3 q4 q5 q6 q7 q8 q9 q10 q11 q12
  have e0 := l3.cell 0
  have e1 := l3.cell 1
  have e2 := l3.cell 2
  have e3 := l3.cell 3
  have e4 := l3.cell 4
  have e5 := l3.cell 5
  have e6 := l3.cell 6
  have e7 := l3.cell 7
  simp at e0 e1 e2 e3 e4 e5 e6 e7
  clear l1 l2 l3 hk hi hm hmg hone hl ht h11 hil hig hn1
  go_enter Try.func29, Try.ntmps29
  go_upto_block 0 with (first
    | (go_at_call 40; (with_reducible refine (HL.out _).mono ?_); rintro e1 w1 ⟨rfl, hb1⟩
       replace S := Lib.hid (S.out.call hb1)
       have x1 := S.out.kb
       have x2 := S.out.pb
       have q0 := x1.cell 0
       have q1 := x1.cell 1
       have q2 := x1.cell 2
       have q3 := x1.cell 3
       have q4 := x1.cell 4
       have q5 := x1.cell 5
       have q6 := x1.cell 6
       have q7 := x1.cell 7
       have q8 := x1.cell 8
       have q9 := x1.cell 9
       have q10 := x1.cell 10
       have q11 := x1.cell 11
       have q12 := x1.cell 12
       simp at q0 q1 q2 q3 q4 q5 q6 q7 q8 q9 q10 q11 q12
       have e0 := x2.cell 0
       have e1 := x2.cell 1
       have e2 := x2.cell 2
       have e3 := x2.cell 3
       have e4 := x2.cell 4
       have e5 := x2.cell 5
       have e6 := x2.cell 6
       have e7 := x2.cell 7
       simp at e0 e1 e2 e3 e4 e5 e6 e7
       clear x1 x2 hb1)
    | (go_at_call 41; (with_reducible refine (HT.out _ S.out.bel).mono ?_); rintro e1 w1 ⟨rfl, hb1⟩
       replace S := Lib.hid (S.out.call hb1)
       have x1 := S.out.kb
       have x2 := S.out.pb
       have q0 := x1.cell 0
       have q1 := x1.cell 1
       have q2 := x1.cell 2
       have q3 := x1.cell 3
       have q4 := x1.cell 4
       have q5 := x1.cell 5
       have q6 := x1.cell 6
       have q7 := x1.cell 7
       have q8 := x1.cell 8
       have q9 := x1.cell 9
       have q10 := x1.cell 10
       have q11 := x1.cell 11
       have q12 := x1.cell 12
       simp at q0 q1 q2 q3 q4 q5 q6 q7 q8 q9 q10 q11 q12
       have e0 := x2.cell 0
       have e1 := x2.cell 1
       have e2 := x2.cell 2
       have e3 := x2.cell 3
       have e4 := x2.cell 4
       have e5 := x2.cell 5
       have e6 := x2.cell 6
       have e7 := x2.cell 7
       simp at e0 e1 e2 e3 e4 e5 e6 e7
       clear x1 x2 hb1))
  clear HL HT
  go_cut [2] (fun s2 wx => s2 = .int .i64 (roomZ (roomPs k.vars k.chans.length (deep + 1) false true (n - 1) p.l)) ∧ Hid (LfAt w wx #[.slice k.Av k.vars.length k.cv, .slice k.Ac k.chans.length k.cc, .int .u8 k.root.kind, .int .i64 k.root.c, .int .i64 k.root.v, .int .u8 k.root.item, .slice k.root.At k.root.tos.length k.root.ct, .slice k.root.Ae k.root.e.length k.root.ce, .slice k.root.Ag k.root.g.length k.root.cg, .slice k.root.Al k.root.l.length k.root.cl, .slice k.Ap k.procs.length k.cp, .int .i64 deep, .bool false] #[.int .u8 p.kind, .int .i64 p.c, .int .i64 p.v, .int .u8 p.item, .slice p.At p.tos.length p.ct, .slice p.Ae p.e.length p.ce, .slice p.Ag mg p.cg, .slice p.Al m p.cl]))
  case first =>
    go_wp2_with fail
    go_loopw [2, 7] (fun v i wr => ∃ (j : Nat) (so : Option Nat), j ≤ m ∧ i = .int .i64 j ∧ v = .int .i64 (roomZ so) ∧ Hid (LfAt w wr #[.slice k.Av k.vars.length k.cv, .slice k.Ac k.chans.length k.cc, .int .u8 k.root.kind, .int .i64 k.root.c, .int .i64 k.root.v, .int .u8 k.root.item, .slice k.root.At k.root.tos.length k.root.ct, .slice k.root.Ae k.root.e.length k.root.ce, .slice k.root.Ag k.root.g.length k.root.cg, .slice k.root.Al k.root.l.length k.root.cl, .slice k.Ap k.procs.length k.cp, .int .i64 deep, .bool false] #[.int .u8 p.kind, .int .i64 p.c, .int .i64 p.v, .int .u8 p.item, .slice p.At p.tos.length p.ct, .slice p.Ae p.e.length p.ce, .slice p.Ag mg p.cg, .slice p.Al m p.cl]) ∧ Hid (roomPs k.vars k.chans.length (deep + 1) false true (n - 1) (p.l.take j) = so) ∧ Hid (∀ r, so = some r → r ≤ 2048)) (fun _ i _ => m - (intOf i).toNat)
    case atStart => exact ⟨0, some (n - 1), Nat.zero_le _, rfl, by rw [HN1.out]; rfl, S, Lib.hid (by rw [List.take_zero, roomPs]), Lib.hid (fun r h => by injection h with h; omega)⟩
    case round =>
      clear S q0 q1 q2 q3 q4 q5 q6 q7 q8 q9 q10 q11 q12 e0 e1 e2 e3 e4 e5 e6 e7
      obtain ⟨j, so, hj, rfl, rfl, S, HST, HRR⟩ := hrel
      have x1 := S.out.kb
      have x2 := S.out.pb
      have hkw := x1.lt
      have hpw := x2.lt
      have q0 := x1.cell 0
      have q1 := x1.cell 1
      have q2 := x1.cell 2
      have q3 := x1.cell 3
      have q4 := x1.cell 4
      have q5 := x1.cell 5
      have q6 := x1.cell 6
      have q7 := x1.cell 7
      have q8 := x1.cell 8
      have q9 := x1.cell 9
      have q10 := x1.cell 10
      have q11 := x1.cell 11
      have q12 := x1.cell 12
      simp at q0 q1 q2 q3 q4 q5 q6 q7 q8 q9 q10 q11 q12
      have e0 := x2.cell 0
      have e1 := x2.cell 1
      have e2 := x2.cell 2
      have e3 := x2.cell 3
      have e4 := x2.cell 4
      have e5 := x2.cell 5
      have e6 := x2.cell 6
      have e7 := x2.cell 7
      simp at e0 e1 e2 e3 e4 e5 e6 e7
      clear x1 x2
      by_cases hlt : j < m
      · have hltI : (j : Int) < m := by omega
        cases so with
        | none =>
          have HXX := Lib.hid (roomPs_take_none HST.out)
          simp only [roomZ]
          go_wp2_with fail
          go_meet
          exact ⟨by rw [HXX.out]; rfl, S⟩
        | some r =>
          have hr2 := HRR.out r rfl
          have hst := HST.out
          have hin := HW.out wr S.out.bel
          obtain ⟨b, off, x, hA, hb, hx, hmx, c0, c1, c2, c3, c4, c5, c6, c7⟩ := kps_at hin.2.1.one.2.2.2.2 rfl (k := j) (by rw [HM.out]; exact hlt)
          have hbw : b < wr.heap.size := Nat.lt_of_lt_of_le hb hin.2.2
          rw [hA] at e7
          simp only [roomZ]
          by_cases hj0 : j = 0
          · have yj : ((j : Int) == 0) = true := by simp; omega
            have HC : Hid (∀ w1 : World, Below wr.heap.size wr w1 → Calls Try.prog 29 #[.agg (innerV k ((deep : Int) + 1) true), .agg x.cells, .int .i64 r] w1 (RetV (.int .i64 (roomZ (roomP k.vars k.chans.length (deep + 1) true r x))) w1)) := Lib.hid fun w1 h => by
              have h1 := HW.out w1 (S.out.bel.trans (h.mono S.out.bel.size))
              have h2 := HIL.out x hmx (deep + 1) r true B w1 (by omega) hr2 h1.1 (h1.2.1.part hmx) h1.2.2
              have h3 : ((deep + 1 : Nat) : Int) = (deep : Int) + 1 := by omega
              rw [h3] at h2
              exact h2
            have hsn := roomPs_snoc (vs := k.vars) (nc := k.chans.length) (deep := deep + 1) (high := false) (first := true) (left := n - 1) hx hst
            have hb2 : (false || (true && decide (j = 0))) = true := by rw [decide_eq_true hj0]; rfl
            rw [hb2] at hsn
            clear hj0
            have HSN : Hid (roomPs k.vars k.chans.length (deep + 1) false true (n - 1) (p.l.take (j + 1)) = roomP k.vars k.chans.length (deep + 1) true r x) := Lib.hid hsn
            have HRL : Hid (∀ r2, roomP k.vars k.chans.length (deep + 1) true r x = some r2 → r2 ≤ r) := Lib.hid fun r2 h => roomP_le x _ _ _ _ h
            generalize roomP k.vars k.chans.length (deep + 1) true r x = so2 at *
            simp only [innerV, KP.cells] at HC
            clear hx hmx hA hst hsn hin
            go_upto_region 7 with fail
            obtain ⟨ι, F, i0', h0', hFb, hcl⟩ := fam_below wr
            have Fq0 := fun i => ((hFb i).cell (p := ⟨w.heap.size, 0, none⟩) hkw).trans q0
            have Fq1 := fun i => ((hFb i).cell (p := ⟨w.heap.size, 1, none⟩) hkw).trans q1
            have Fq2 := fun i => ((hFb i).cell (p := ⟨w.heap.size, 2, none⟩) hkw).trans q2
            have Fq3 := fun i => ((hFb i).cell (p := ⟨w.heap.size, 3, none⟩) hkw).trans q3
            have Fq4 := fun i => ((hFb i).cell (p := ⟨w.heap.size, 4, none⟩) hkw).trans q4
            have Fq5 := fun i => ((hFb i).cell (p := ⟨w.heap.size, 5, none⟩) hkw).trans q5
            have Fq6 := fun i => ((hFb i).cell (p := ⟨w.heap.size, 6, none⟩) hkw).trans q6
            have Fq7 := fun i => ((hFb i).cell (p := ⟨w.heap.size, 7, none⟩) hkw).trans q7
            have Fq8 := fun i => ((hFb i).cell (p := ⟨w.heap.size, 8, none⟩) hkw).trans q8
            have Fq9 := fun i => ((hFb i).cell (p := ⟨w.heap.size, 9, none⟩) hkw).trans q9
            have Fq10 := fun i => ((hFb i).cell (p := ⟨w.heap.size, 10, none⟩) hkw).trans q10
            have Fq11 := fun i => ((hFb i).cell (p := ⟨w.heap.size, 11, none⟩) hkw).trans q11
            have Fq12 := fun i => ((hFb i).cell (p := ⟨w.heap.size, 12, none⟩) hkw).trans q12
            have Fe0 := fun i => ((hFb i).cell (p := ⟨w.heap.size + 1, 0, none⟩) hpw).trans e0
            have Fe7 := fun i => ((hFb i).cell (p := ⟨w.heap.size + 1, 7, none⟩) hpw).trans e7
            have Fc0 := fun i => ((hFb i).cell (p := ⟨b, off + j * 8, none⟩) hbw).trans c0
            have Fc1 := fun i => ((hFb i).cell (p := ⟨b, off + j * 8 + 1, none⟩) hbw).trans c1
            have Fc2 := fun i => ((hFb i).cell (p := ⟨b, off + j * 8 + 2, none⟩) hbw).trans c2
            have Fc3 := fun i => ((hFb i).cell (p := ⟨b, off + j * 8 + 3, none⟩) hbw).trans c3
            have Fc4 := fun i => ((hFb i).cell (p := ⟨b, off + j * 8 + 4, none⟩) hbw).trans c4
            have Fc5 := fun i => ((hFb i).cell (p := ⟨b, off + j * 8 + 5, none⟩) hbw).trans c5
            have Fc6 := fun i => ((hFb i).cell (p := ⟨b, off + j * 8 + 6, none⟩) hbw).trans c6
            have Fc7 := fun i => ((hFb i).cell (p := ⟨b, off + j * 8 + 7, none⟩) hbw).trans c7
            have HCF := Lib.hid (fun i => HC.out (F i) (hFb i))
            haveI : Nonempty ι := ⟨i0'⟩
            refine wp_region_quiet_fam F i0' h0' (by kernel_rfl) (by kernel_rfl) ?_
            repeat (go_big_quiet_step (first
              | (go_at_call 29; refine (HCF.out _).mono ?_; rintro e w4 ⟨rfl, hb4⟩; exact ⟨rfl, hcl _ _ hb4⟩)))
            refine wpQuiet_nil ?_
            intro i
            have S5 := Lib.hid (S.out.call (hFb i))
            clear HCF 
            go_wp2
            go_roundw
            case rel => exact ⟨j + 1, so2, by omega, by go_num, rfl, S5, HSN, Lib.hid (fun r2 h => Nat.le_trans (HRL.out r2 h) hr2)⟩
            case measure => simp [intOf]; omega
          · have yj : ((j : Int) == 0) = false := by simp; omega
            have HC : Hid (∀ w1 : World, Below wr.heap.size wr w1 → Calls Try.prog 29 #[.agg (innerV k ((deep : Int) + 1) false), .agg x.cells, .int .i64 r] w1 (RetV (.int .i64 (roomZ (roomP k.vars k.chans.length (deep + 1) false r x))) w1)) := Lib.hid fun w1 h => by
              have h1 := HW.out w1 (S.out.bel.trans (h.mono S.out.bel.size))
              have h2 := HIL.out x hmx (deep + 1) r false B w1 (by omega) hr2 h1.1 (h1.2.1.part hmx) h1.2.2
              have h3 : ((deep + 1 : Nat) : Int) = (deep : Int) + 1 := by omega
              rw [h3] at h2
              exact h2
            have hsn := roomPs_snoc (vs := k.vars) (nc := k.chans.length) (deep := deep + 1) (high := false) (first := true) (left := n - 1) hx hst
            have hb2 : (false || (true && decide (j = 0))) = false := by rw [decide_eq_false hj0]; rfl
            rw [hb2] at hsn
            clear hj0
            have HSN : Hid (roomPs k.vars k.chans.length (deep + 1) false true (n - 1) (p.l.take (j + 1)) = roomP k.vars k.chans.length (deep + 1) false r x) := Lib.hid hsn
            have HRL : Hid (∀ r2, roomP k.vars k.chans.length (deep + 1) false r x = some r2 → r2 ≤ r) := Lib.hid fun r2 h => roomP_le x _ _ _ _ h
            generalize roomP k.vars k.chans.length (deep + 1) false r x = so2 at *
            simp only [innerV, KP.cells] at HC
            clear hx hmx hA hst hsn hin
            go_upto_region 7 with fail
            obtain ⟨ι, F, i0', h0', hFb, hcl⟩ := fam_below wr
            have Fq0 := fun i => ((hFb i).cell (p := ⟨w.heap.size, 0, none⟩) hkw).trans q0
            have Fq1 := fun i => ((hFb i).cell (p := ⟨w.heap.size, 1, none⟩) hkw).trans q1
            have Fq2 := fun i => ((hFb i).cell (p := ⟨w.heap.size, 2, none⟩) hkw).trans q2
            have Fq3 := fun i => ((hFb i).cell (p := ⟨w.heap.size, 3, none⟩) hkw).trans q3
            have Fq4 := fun i => ((hFb i).cell (p := ⟨w.heap.size, 4, none⟩) hkw).trans q4
            have Fq5 := fun i => ((hFb i).cell (p := ⟨w.heap.size, 5, none⟩) hkw).trans q5
            have Fq6 := fun i => ((hFb i).cell (p := ⟨w.heap.size, 6, none⟩) hkw).trans q6
            have Fq7 := fun i => ((hFb i).cell (p := ⟨w.heap.size, 7, none⟩) hkw).trans q7
            have Fq8 := fun i => ((hFb i).cell (p := ⟨w.heap.size, 8, none⟩) hkw).trans q8
            have Fq9 := fun i => ((hFb i).cell (p := ⟨w.heap.size, 9, none⟩) hkw).trans q9
            have Fq10 := fun i => ((hFb i).cell (p := ⟨w.heap.size, 10, none⟩) hkw).trans q10
            have Fq11 := fun i => ((hFb i).cell (p := ⟨w.heap.size, 11, none⟩) hkw).trans q11
            have Fq12 := fun i => ((hFb i).cell (p := ⟨w.heap.size, 12, none⟩) hkw).trans q12
            have Fe0 := fun i => ((hFb i).cell (p := ⟨w.heap.size + 1, 0, none⟩) hpw).trans e0
            have Fe7 := fun i => ((hFb i).cell (p := ⟨w.heap.size + 1, 7, none⟩) hpw).trans e7
            have Fc0 := fun i => ((hFb i).cell (p := ⟨b, off + j * 8, none⟩) hbw).trans c0
            have Fc1 := fun i => ((hFb i).cell (p := ⟨b, off + j * 8 + 1, none⟩) hbw).trans c1
            have Fc2 := fun i => ((hFb i).cell (p := ⟨b, off + j * 8 + 2, none⟩) hbw).trans c2
            have Fc3 := fun i => ((hFb i).cell (p := ⟨b, off + j * 8 + 3, none⟩) hbw).trans c3
            have Fc4 := fun i => ((hFb i).cell (p := ⟨b, off + j * 8 + 4, none⟩) hbw).trans c4
            have Fc5 := fun i => ((hFb i).cell (p := ⟨b, off + j * 8 + 5, none⟩) hbw).trans c5
            have Fc6 := fun i => ((hFb i).cell (p := ⟨b, off + j * 8 + 6, none⟩) hbw).trans c6
            have Fc7 := fun i => ((hFb i).cell (p := ⟨b, off + j * 8 + 7, none⟩) hbw).trans c7
            have HCF := Lib.hid (fun i => HC.out (F i) (hFb i))
            haveI : Nonempty ι := ⟨i0'⟩
            refine wp_region_quiet_fam F i0' h0' (by kernel_rfl) (by kernel_rfl) ?_
            repeat (go_big_quiet_step (first
              | (go_at_call 29; refine (HCF.out _).mono ?_; rintro e w4 ⟨rfl, hb4⟩; exact ⟨rfl, hcl _ _ hb4⟩)))
            refine wpQuiet_nil ?_
            intro i
            have S5 := Lib.hid (S.out.call (hFb i))
            clear HCF 
            go_wp2
            go_roundw
            case rel => exact ⟨j + 1, so2, by omega, by go_num, rfl, S5, HSN, Lib.hid (fun r2 h => Nat.le_trans (HRL.out r2 h) hr2)⟩
            case measure => simp [intOf]; omega
      · have hltI : ¬ (j : Int) < m := by omega
        obtain rfl : m = j := by omega
        have htk : p.l.take m = p.l := List.take_of_length_le (by rw [HM.out]; omega)
        have hst := HST.out
        rw [htk] at hst
        have HXX := Lib.hid hst
        clear htk hst
        go_wp2_with fail
        go_meet
        exact ⟨by rw [HXX.out], S⟩
  case rest =>
    obtain ⟨rfl, S⟩ := hcut
    have HS1 : Hid (∀ r, roomPs k.vars k.chans.length (deep + 1) false true (n - 1) p.l = some r → r ≤ 2048) := Lib.hid fun r h => by have := roomPs_le h; omega
    generalize roomPs k.vars k.chans.length (deep + 1) false true (n - 1) p.l = s1 at *
    clear HIL q0 q1 q2 q3 q4 q5 q6 q7 q8 q9 q10 q11 q12 e0 e1 e2 e3 e4 e5 e6 e7
    go_wp2_with fail
    go_loopw [2, 8] (fun v i wr => ∃ (j : Nat) (so : Option Nat), j ≤ mg ∧ i = .int .i64 j ∧ v = .int .i64 (roomZ so) ∧ Hid (LfAt w wr #[.slice k.Av k.vars.length k.cv, .slice k.Ac k.chans.length k.cc, .int .u8 k.root.kind, .int .i64 k.root.c, .int .i64 k.root.v, .int .u8 k.root.item, .slice k.root.At k.root.tos.length k.root.ct, .slice k.root.Ae k.root.e.length k.root.ce, .slice k.root.Ag k.root.g.length k.root.cg, .slice k.root.Al k.root.l.length k.root.cl, .slice k.Ap k.procs.length k.cp, .int .i64 deep, .bool false] #[.int .u8 p.kind, .int .i64 p.c, .int .i64 p.v, .int .u8 p.item, .slice p.At p.tos.length p.ct, .slice p.Ae p.e.length p.ce, .slice p.Ag mg p.cg, .slice p.Al m p.cl]) ∧ Hid (behindG k.vars k.chans.length (deep + 1) false s1 (p.g.take j) = so) ∧ Hid (∀ r, so = some r → r ≤ 2048)) (fun _ i _ => mg - (intOf i).toNat)
    case atStart => exact ⟨0, s1, Nat.zero_le _, rfl, rfl, S, Lib.hid behindG_nil, HS1⟩
    case round =>
      clear S HS1
      obtain ⟨j, so, hj, rfl, rfl, S, HST, HRR⟩ := hrel
      have x1 := S.out.kb
      have x2 := S.out.pb
      have hkw := x1.lt
      have hpw := x2.lt
      have q0 := x1.cell 0
      have q1 := x1.cell 1
      have q2 := x1.cell 2
      have q3 := x1.cell 3
      have q4 := x1.cell 4
      have q5 := x1.cell 5
      have q6 := x1.cell 6
      have q7 := x1.cell 7
      have q8 := x1.cell 8
      have q9 := x1.cell 9
      have q10 := x1.cell 10
      have q11 := x1.cell 11
      have q12 := x1.cell 12
      simp at q0 q1 q2 q3 q4 q5 q6 q7 q8 q9 q10 q11 q12
      have e0 := x2.cell 0
      have e1 := x2.cell 1
      have e2 := x2.cell 2
      have e3 := x2.cell 3
      have e4 := x2.cell 4
      have e5 := x2.cell 5
      have e6 := x2.cell 6
      have e7 := x2.cell 7
      simp at e0 e1 e2 e3 e4 e5 e6 e7
      clear x1 x2
      by_cases hlt : j < mg
      · have hltI : (j : Int) < mg := by omega
        cases so with
        | none =>
          have HXX := Lib.hid (behindG_take_none HST.out)
          simp only [roomZ]
          go_wp2
          go_ret
          exact ⟨by rw [HXX.out]; rfl, S.out.bel⟩
        | some r =>
          have hr2 := HRR.out r rfl
          have hst := HST.out
          have hin := HW.out wr S.out.bel
          obtain ⟨b, off, g, hA, hb, hx, hmx, hG⟩ := kgs_at hin.2.1.one.2.2.2.1.1 rfl (k := j) (by rw [HMG.out]; exact hlt)
          have hbw : b < wr.heap.size := Nat.lt_of_lt_of_le hb hin.2.2
          have g17 := hG.c17
          obtain ⟨qq, hq⟩ := HGB.out g hmx
          have hbo := (hin.2.1.one.2.2.2.1.2 g hmx).2.2.2.2
          obtain ⟨b2, off2, x, hA2, hb2, hx2, hmx2, c0, c1, c2, c3, c4, c5, c6, c7⟩ := kps_at hbo rfl (k := 0) (by rw [hq]; simp)
          have hxq : x = qq := by rw [hq] at hx2; simpa using hx2.symm
          subst hxq
          have hbw2 : b2 < wr.heap.size := Nat.lt_of_lt_of_le hb2 hin.2.2
          rw [hq] at g17
          rw [hA2] at g17
          rw [hA] at e6
          rw [Nat.zero_mul, Nat.add_zero] at c0 c1 c2 c3 c4 c5 c6 c7
          simp only [List.length_singleton] at g17
          simp only [roomZ]
          have HC : Hid (∀ w1 : World, Below wr.heap.size wr w1 → Calls Try.prog 29 #[.agg (innerV k ((deep : Int) + 1) false), .agg x.cells, .int .i64 r] w1 (RetV (.int .i64 (roomZ (roomP k.vars k.chans.length (deep + 1) false r x))) w1)) := Lib.hid fun w1 h => by
            have h1 := HW.out w1 (S.out.bel.trans (h.mono S.out.bel.size))
            have h2 := HIG.out g hmx x hmx2 (deep + 1) r false B w1 (by omega) hr2 h1.1 (h1.2.1.guard hmx hmx2) h1.2.2
            have h3 : ((deep + 1 : Nat) : Int) = (deep : Int) + 1 := by omega
            rw [h3] at h2
            exact h2
          have HSN := Lib.hid ((behindG_snoc hx hst).trans (roomG_one hq))
          have HRL : Hid (∀ r2, roomP k.vars k.chans.length (deep + 1) false r x = some r2 → r2 ≤ r) := Lib.hid fun r2 h => roomP_le x _ _ _ _ h
          generalize roomP k.vars k.chans.length (deep + 1) false r x = so2 at *
          simp only [innerV, KP.cells] at HC
          clear hx hmx hA hst hin hG hq hbo hx2 hmx2 hA2
          go_upto_region 11 with fail
          obtain ⟨ι, F, i0', h0', hFb, hcl⟩ := fam_below wr
          have Fq0 := fun i => ((hFb i).cell (p := ⟨w.heap.size, 0, none⟩) hkw).trans q0
          have Fq1 := fun i => ((hFb i).cell (p := ⟨w.heap.size, 1, none⟩) hkw).trans q1
          have Fq2 := fun i => ((hFb i).cell (p := ⟨w.heap.size, 2, none⟩) hkw).trans q2
          have Fq3 := fun i => ((hFb i).cell (p := ⟨w.heap.size, 3, none⟩) hkw).trans q3
          have Fq4 := fun i => ((hFb i).cell (p := ⟨w.heap.size, 4, none⟩) hkw).trans q4
          have Fq5 := fun i => ((hFb i).cell (p := ⟨w.heap.size, 5, none⟩) hkw).trans q5
          have Fq6 := fun i => ((hFb i).cell (p := ⟨w.heap.size, 6, none⟩) hkw).trans q6
          have Fq7 := fun i => ((hFb i).cell (p := ⟨w.heap.size, 7, none⟩) hkw).trans q7
          have Fq8 := fun i => ((hFb i).cell (p := ⟨w.heap.size, 8, none⟩) hkw).trans q8
          have Fq9 := fun i => ((hFb i).cell (p := ⟨w.heap.size, 9, none⟩) hkw).trans q9
          have Fq10 := fun i => ((hFb i).cell (p := ⟨w.heap.size, 10, none⟩) hkw).trans q10
          have Fq11 := fun i => ((hFb i).cell (p := ⟨w.heap.size, 11, none⟩) hkw).trans q11
          have Fq12 := fun i => ((hFb i).cell (p := ⟨w.heap.size, 12, none⟩) hkw).trans q12
          have Fe6 := fun i => ((hFb i).cell (p := ⟨w.heap.size + 1, 6, none⟩) hpw).trans e6
          have Fg17 := fun i => ((hFb i).cell (p := ⟨b, off + j * 18 + 17, none⟩) hbw).trans g17
          have Fc0 := fun i => ((hFb i).cell (p := ⟨b2, off2, none⟩) hbw2).trans c0
          have Fc1 := fun i => ((hFb i).cell (p := ⟨b2, off2 + 1, none⟩) hbw2).trans c1
          have Fc2 := fun i => ((hFb i).cell (p := ⟨b2, off2 + 2, none⟩) hbw2).trans c2
          have Fc3 := fun i => ((hFb i).cell (p := ⟨b2, off2 + 3, none⟩) hbw2).trans c3
          have Fc4 := fun i => ((hFb i).cell (p := ⟨b2, off2 + 4, none⟩) hbw2).trans c4
          have Fc5 := fun i => ((hFb i).cell (p := ⟨b2, off2 + 5, none⟩) hbw2).trans c5
          have Fc6 := fun i => ((hFb i).cell (p := ⟨b2, off2 + 6, none⟩) hbw2).trans c6
          have Fc7 := fun i => ((hFb i).cell (p := ⟨b2, off2 + 7, none⟩) hbw2).trans c7
          have HCF := Lib.hid (fun i => HC.out (F i) (hFb i))
          haveI : Nonempty ι := ⟨i0'⟩
          refine wp_region_quiet_fam F i0' h0' (by kernel_rfl) (by kernel_rfl) ?_
          repeat (go_big_quiet_step (first
            | (go_at_call 29; refine (HCF.out _).mono ?_; rintro e w4 ⟨rfl, hb4⟩; exact ⟨rfl, hcl _ _ hb4⟩)))
          refine wpQuiet_nil ?_
          intro i
          have S5 := Lib.hid (S.out.call (hFb i))
          clear HCF 
          go_wp2
          go_roundw
          case rel => exact ⟨j + 1, so2, by omega, by go_num, rfl, S5, HSN, Lib.hid (fun r2 h => Nat.le_trans (HRL.out r2 h) hr2)⟩
          case measure => simp [intOf]; omega
      · have hltI : ¬ (j : Int) < mg := by omega
        obtain rfl : mg = j := by omega
        have htk : p.g.take mg = p.g := List.take_of_length_le (by rw [HMG.out]; omega)
        have hst := HST.out
        rw [htk] at hst
        have HXX := Lib.hid hst
        clear htk hst
        go_wp2
        go_ret
        exact ⟨by rw [HXX.out]; rfl, S.out.bel⟩
end Go.Proofs.Ytekamebpjjkifaa

/- How many processes are left, in the document: left whole; the processors: placed. -/
namespace Go.Proofs.Ytekamebpjjkifaa
open Go.RowKit
set_option linter.unusedSimpArgs false
set_option linter.unusedVariables false

theorem rLeft (k : KK) (ok : KOk k) (p : KP) : LeftOk k p := by
  induction p using KP.ind with
  | h p ihg ihl =>
    intro deep n high B w hd hn hk hi hB
    have hR := roomP_eq (vs := k.vars) (nc := k.chans.length) deep high n p
    rw [checkB_ref] at hR
    by_cases h32 : deep = 32
    · rw [hR, if_pos (by simp [h32])]
      exact rLeft_32 k ok p deep n high B w hd hn hk hi hB h32
    have hd2 : deep < 32 := by omega
    by_cases h0 : n = 0
    · rw [hR, if_pos (by simp [h0])]
      exact rLeft_0 k ok p deep n high B w hd hn hk hi hB hd2 h0
    cases hl : looksB p with
    | false =>
      rw [hR, if_pos (by simp [hl])]
      exact rLeft_looks k ok p deep n high B w hd hn hk hi hB hd2 h0 hl
    | true =>
      cases ht : typedB k.vars k.chans.length p with
      | false =>
        rw [hR, if_pos (by simp [ht])]
        exact rLeft_typed k ok p deep n high B w hd hn hk hi hB hd2 h0 hl ht
      | true =>
        have hc : ¬ (decide (32 ≤ deep) || decide (n = 0)) = true := by simp; omega
        by_cases h11 : p.kind = 11
        · cases high with
          | true =>
            rw [hR, if_pos (by simp [h11])]
            exact rLeft_high k ok p deep n true B w hd hn hk hi hB hd2 h0 hl ht rfl h11
          | false =>
            have := rLeft_p k ok p ihl ihg deep n B w hd2 hn h0 hk hi hB hl ht h11
            rw [hR, if_neg (by simp [hl, ht]; omega), show (p.kind == 11) = true by simp [h11]]
            exact this
        · cases high with
          | true =>
            have := rLeft_t k ok p ihl ihg deep n B w hd2 hn h0 hk hi hB hl ht h11
            rw [hR, if_neg (by simp [hl, ht, h11]; omega), show (p.kind == 11) = false by simp [h11]]
            exact this
          | false =>
            have := rLeft_f k ok p ihl ihg deep n B w hd2 hn h0 hk hi hB hl ht h11
            rw [hR, if_neg (by simp [hl, ht]; omega), show (p.kind == 11) = false by simp [h11]]
            exact this
theorem ints_at' {w : World} {B n : Nat} {A : Option Addr} {l : List Int} (h : Reads w B 1 A n (intsC l)) (hn : l.length = n) {k : Nat} (hk : k < n) :
    ∃ b off, A = some ⟨b, off, none⟩ ∧ b < B ∧ ∀ j x, l[j]? = some x → w.cell? ⟨b, off + j, none⟩ = some (.int .i64 x) := by
  subst hn
  obtain ⟨b, off, rfl, hb, hc⟩ := h.addr (by omega) (by decide)
  refine ⟨b, off, rfl, hb, fun j x hx => ?_⟩
  have := hc (j * 1) (.int .i64 x) (by unfold intsC; rw [show j * 1 = j * 1 + 0 by omega, flat_at (f := fun x : Int => [Value.int .i64 x]) (fun _ => rfl) hx 0 (by decide)]; rfl)
  simpa using this
/-- The processors so far are different and in range. -/
def procsOk (l : List Int) : Prop := l.Nodup ∧ ∀ n ∈ l, 0 ≤ n ∧ n < 8
theorem procsOk_snoc {l : List Int} {j : Nat} {x : Int} (h : l[j]? = some x) (hp : procsOk (l.take j)) (hne : ∀ t y, t < j → l[t]? = some y → y ≠ x) (hr : 0 ≤ x ∧ x < 8) : procsOk (l.take (j + 1)) := by
  rw [List.take_add_one, h, Option.toList_some]
  refine ⟨?_, ?_⟩
  · rw [List.nodup_append]
    refine ⟨hp.1, by simp, ?_⟩
    intro a ha b hb
    simp at hb
    subst hb
    obtain ⟨t, ht⟩ := List.mem_iff_getElem?.1 ha
    have hlt : t < j := by
      have := (List.getElem?_eq_some_iff.1 ht).1
      rw [List.length_take] at this
      omega
    rw [List.getElem?_take, if_pos hlt] at ht
    exact hne t a hlt ht
  · intro n hn
    rcases List.mem_append.1 hn with h1 | h1
    · exact hp.2 n h1
    · simp at h1; subst h1; exact hr
theorem placedB_dup {k : KK} (h0 : k.procs.length ≠ 0) {i j : Nat} {x : Int} (hi : k.procs[i]? = some x) (hj : k.procs[j]? = some x) (hne : i ≠ j) : placedB k = false := by
  have hn : ¬ k.procs.Nodup := by
    intro h
    exact hne ((List.getElem?_inj (List.getElem?_eq_some_iff.1 hi).1 h).1 (by rw [hi, hj]))
  unfold placedB
  rw [decide_eq_false h0, decide_eq_false hn]
  rfl
theorem placedB_range {k : KK} (h0 : k.procs.length ≠ 0) {i : Nat} {x : Int} (hi : k.procs[i]? = some x) (hr : ¬ (0 ≤ x ∧ x < 8)) : placedB k = false := by
  have hn : (k.procs.all fun n => decide (0 ≤ n ∧ n < 8)) = false := by
    rw [List.all_eq_false]
    exact ⟨x, List.mem_of_getElem? hi, by simpa using hr⟩
  unfold placedB
  rw [decide_eq_false h0, hn]
  simp
theorem placedB_end {k : KK} (h0 : k.procs.length ≠ 0) (hp : procsOk k.procs) : placedB k = (k.root.kind == 10 && decide (k.root.l.length = k.procs.length)) := by
  have hn : (k.procs.all fun n => decide (0 ≤ n ∧ n < 8)) = true := by
    rw [List.all_eq_true]
    exact fun x hx => by simpa using hp.2 x hx
  unfold placedB
  rw [decide_eq_false h0, decide_eq_true hp.1, hn]
  rfl
end Go.Proofs.Ytekamebpjjkifaa
