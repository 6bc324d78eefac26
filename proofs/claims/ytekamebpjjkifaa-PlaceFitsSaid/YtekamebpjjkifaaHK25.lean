/- Texts that belong together, joined: what each one holds is told ahead of it. -/
import Derived.Test.YtekamebpjjkifaaHK24
/- Guards of a process, in the document: typed, walked; the kinds with guards. -/
namespace Go.Proofs.Ytekamebpjjkifaa
open Go.RowKit
set_option linter.unusedSimpArgs false
set_option linter.unusedVariables false

set_option maxRecDepth 100000 in
set_option maxHeartbeats 4000000 in
theorem rTyped_g (k : KK) (p : KP) (hkd : p.kind ≠ 3 ∧ p.kind ≠ 4 ∧ p.kind ≠ 5 ∧ p.kind ≠ 6 ∧ p.kind ≠ 7 ∧ p.kind ≠ 8 ∧ p.kind ≠ 13) (B : Nat) (w : World) (hk : k.In w B) (ok : KOk k) (hi : p.One w B) (hB : B ≤ w.heap.size) :
    Calls Try.prog 41 #[.agg k.flat, .agg p.cells] w (RetV (.bool (p.g.all (guardB k.vars k.chans.length (p.kind == 12)))) w) := by
  obtain ⟨W0, hW0⟩ : ∃ W, (w.alloc (.cells k.flat 34)).alloc (.cells p.cells 31) = W := ⟨_, rfl⟩
  obtain ⟨l1, l2, l3⟩ := lay2 w k.flat p.cells 34 31
  rw [hW0] at l1 l2 l3
  have HW : Hid (∀ w1 : World, Below w.heap.size w w1 → k.In w1 B ∧ p.One w1 B ∧ B ≤ w1.heap.size) := Lib.hid fun w1 hb => ⟨hk.below (hb.mono hB), hi.below (hb.mono hB), Nat.le_trans hB hb.size⟩
  have y3 : ((p.kind : Int) == 3) = false := by simp; omega
  have y4 : ((p.kind : Int) == 4) = false := by simp; omega
  have y5 : ((p.kind : Int) == 5) = false := by simp; omega
  have y6 : ((p.kind : Int) == 6) = false := by simp; omega
  have y7 : ((p.kind : Int) == 7) = false := by simp; omega
  have y8 : ((p.kind : Int) == 8) = false := by simp; omega
  have y13 : ((p.kind : Int) == 13) = false := by simp; omega
  have hlen := hi.1.2.2.2.2.1
  unfold lenOk at hlen
  obtain ⟨m, hm⟩ : ∃ m, p.g.length = m := ⟨_, rfl⟩
  have HM := Lib.hid hm
  rw [hm] at hlen
  simp only [KK.flat, KP.cells, hm] at l2 l3 hW0 ⊢
  have S0 : Hid (PdAt w W0 #[.slice k.Av k.vars.length k.cv, .slice k.Ac k.chans.length k.cc, .int .u8 k.root.kind, .int .i64 k.root.c, .int .i64 k.root.v, .int .u8 k.root.item, .slice k.root.At k.root.tos.length k.root.ct, .slice k.root.Ae k.root.e.length k.root.ce, .slice k.root.Ag k.root.g.length k.root.cg, .slice k.root.Al k.root.l.length k.root.cl, .slice k.Ap k.procs.length k.cp] #[.int .u8 p.kind, .int .i64 p.c, .int .i64 p.v, .int .u8 p.item, .slice p.At p.tos.length p.ct, .slice p.Ae p.e.length p.ce, .slice p.Ag m p.cg, .slice p.Al p.l.length p.cl]) := Lib.hid ⟨l1, l2, l3⟩
  have q0 := l2.cell 0
  have q1 := l2.cell 1
  have q2 := l2.cell 2
  have q3 := l2.cell 3
  have q4 := l2.cell 4
  have q5 := l2.cell 5
  have q6 := l2.cell 6
  have q7 := l2.cell 7
  have q8 := l2.cell 8
  have q9 := l2.cell 9
  have q10 := l2.cell 10
  simp at q0 q1 q2 q3 q4 q5 q6 q7 q8 q9 q10
  have e0 := l3.cell 0
  have e1 := l3.cell 1
  have e2 := l3.cell 2
  have e3 := l3.cell 3
  have e4 := l3.cell 4
  have e5 := l3.cell 5
  have e6 := l3.cell 6
  have e7 := l3.cell 7
  simp at e0 e1 e2 e3 e4 e5 e6 e7
  have HR0 : Hid (∀ j x, p.g[j]? = some x → (p.g.take j).all (guardB k.vars k.chans.length (p.kind == 12)) = true → (guardB k.vars k.chans.length (p.kind == 12) x = false → p.g.all (guardB k.vars k.chans.length (p.kind == 12)) = false) ∧ (guardB k.vars k.chans.length (p.kind == 12) x = true → (p.g.take (j + 1)).all (guardB k.vars k.chans.length (p.kind == 12)) = true)) := Lib.hid (by
    intro j x hx ha
    refine ⟨fun hf => ?_, fun ht => ?_⟩
    · rw [List.all_eq_false]
      exact ⟨x, List.mem_of_getElem? hx, by rw [hf]; simp⟩
    · rw [List.take_add_one, hx, Option.toList_some, List.all_append, ha]
      simp [ht])
  have HRE : Hid (∀ j, p.g.length ≤ j → (p.g.take j).all (guardB k.vars k.chans.length (p.kind == 12)) = true → p.g.all (guardB k.vars k.chans.length (p.kind == 12)) = true) := Lib.hid (by
    intro j hj ha
    rwa [List.take_of_length_le hj] at ha)
  generalize hGB : guardB k.vars k.chans.length (p.kind == 12) = GB at *
  have HGB := Lib.hid hGB
  generalize p.g.all GB = R at *
  clear l1 l2 l3 hk hi hkd hGB hm
  go_enter Try.func41, Try.ntmps41
  go_wp2_with fail
  go_loopw [7] (fun i wr => ∃ j : Nat, j ≤ m ∧ i = .int .i64 j ∧ Hid (PdAt w wr #[.slice k.Av k.vars.length k.cv, .slice k.Ac k.chans.length k.cc, .int .u8 k.root.kind, .int .i64 k.root.c, .int .i64 k.root.v, .int .u8 k.root.item, .slice k.root.At k.root.tos.length k.root.ct, .slice k.root.Ae k.root.e.length k.root.ce, .slice k.root.Ag k.root.g.length k.root.cg, .slice k.root.Al k.root.l.length k.root.cl, .slice k.Ap k.procs.length k.cp] #[.int .u8 p.kind, .int .i64 p.c, .int .i64 p.v, .int .u8 p.item, .slice p.At p.tos.length p.ct, .slice p.Ae p.e.length p.ce, .slice p.Ag m p.cg, .slice p.Al p.l.length p.cl]) ∧ Hid ((p.g.take j).all GB = true)) (fun i _ => m - (intOf i).toNat)
  case atStart => exact ⟨0, Nat.zero_le _, rfl, S0, Lib.hid (by simp)⟩
  case round =>
    clear S0 q0 q1 q2 q3 q4 q5 q6 q7 q8 q9 q10 e0 e1 e2 e3 e4 e5 e6 e7
    obtain ⟨j, hj, rfl, S, HA⟩ := hrel
    have x1 := S.out.kb
    have x2 := S.out.pb
    have hkw := x1.lt
    have hpw := x2.lt
    have q0 := x1.cell 0
    have q1 := x1.cell 1
    have q2 := x1.cell 2
    have q3 := x1.cell 3
    have q4 := x1.cell 4
    have q5 := x1.cell 5
    have q6 := x1.cell 6
    have q7 := x1.cell 7
    have q8 := x1.cell 8
    have q9 := x1.cell 9
    have q10 := x1.cell 10
    simp at q0 q1 q2 q3 q4 q5 q6 q7 q8 q9 q10
    have e0 := x2.cell 0
    have e1 := x2.cell 1
    have e2 := x2.cell 2
    have e3 := x2.cell 3
    have e4 := x2.cell 4
    have e5 := x2.cell 5
    have e6 := x2.cell 6
    have e7 := x2.cell 7
    simp at e0 e1 e2 e3 e4 e5 e6 e7
    clear x1 x2
    by_cases hlt : j < m
    · have hltI : (j : Int) < m := by omega
      have hin := HW.out wr S.out.bel
      obtain ⟨b, off, x, hA, hb, hx, hm', hG⟩ := kgs_at hin.2.1.2.2.2.1.1 rfl (k := j) (by rw [HM.out]; exact hlt)
      have hbw : b < wr.heap.size := Nat.lt_of_lt_of_le hb hin.2.2
      rw [hA] at e6
      have HC : Hid (∀ w1 : World, Below wr.heap.size wr w1 → Calls Try.prog 52 #[.agg k.flat, .int .u8 p.kind, .agg x.flat] w1 (RetV (.bool (GB x)) w1)) := Lib.hid fun w1 h => by
        have h1 := HW.out w1 (S.out.bel.trans (h.mono S.out.bel.size))
        rw [← HGB.out]
        exact rGuard16 k p.kind x B w1 h1.1 ok (h1.2.1.2.2.2.1.2 x hm') h1.2.2
      have HX := Lib.hid (HR0.out j x hx HA.out)
      obtain ⟨c0, c1, c2, c3, c4, c5, c6, c7, c8, c9, c10, c11, c12, c13, c14, c15, c16, c17⟩ := hG
      simp only [KK.flat, KG.flat] at HC
      generalize hgb : GB x = gb at *
      clear hin hx hm' hA hgb
      go_upto_region 24 with fail
      obtain ⟨ι, F, i0', h0', hFb, hcl⟩ := fam_below wr
      have Fq0 := fun i => ((hFb i).cell (p := ⟨w.heap.size, 0, none⟩) hkw).trans q0
      have Fq1 := fun i => ((hFb i).cell (p := ⟨w.heap.size, 1, none⟩) hkw).trans q1
      have Fq2 := fun i => ((hFb i).cell (p := ⟨w.heap.size, 2, none⟩) hkw).trans q2
      have Fq3 := fun i => ((hFb i).cell (p := ⟨w.heap.size, 3, none⟩) hkw).trans q3
      have Fq4 := fun i => ((hFb i).cell (p := ⟨w.heap.size, 4, none⟩) hkw).trans q4
      have Fq5 := fun i => ((hFb i).cell (p := ⟨w.heap.size, 5, none⟩) hkw).trans q5
      have Fq6 := fun i => ((hFb i).cell (p := ⟨w.heap.size, 6, none⟩) hkw).trans q6
      have Fq7 := fun i => ((hFb i).cell (p := ⟨w.heap.size, 7, none⟩) hkw).trans q7
      have Fq8 := fun i => ((hFb i).cell (p := ⟨w.heap.size, 8, none⟩) hkw).trans q8
      have Fq9 := fun i => ((hFb i).cell (p := ⟨w.heap.size, 9, none⟩) hkw).trans q9
      have Fq10 := fun i => ((hFb i).cell (p := ⟨w.heap.size, 10, none⟩) hkw).trans q10
      have Fe0 := fun i => ((hFb i).cell (p := ⟨w.heap.size + 1, 0, none⟩) hpw).trans e0
      have Fe1 := fun i => ((hFb i).cell (p := ⟨w.heap.size + 1, 1, none⟩) hpw).trans e1
      have Fe2 := fun i => ((hFb i).cell (p := ⟨w.heap.size + 1, 2, none⟩) hpw).trans e2
      have Fe3 := fun i => ((hFb i).cell (p := ⟨w.heap.size + 1, 3, none⟩) hpw).trans e3
      have Fe4 := fun i => ((hFb i).cell (p := ⟨w.heap.size + 1, 4, none⟩) hpw).trans e4
      have Fe5 := fun i => ((hFb i).cell (p := ⟨w.heap.size + 1, 5, none⟩) hpw).trans e5
      have Fe6 := fun i => ((hFb i).cell (p := ⟨w.heap.size + 1, 6, none⟩) hpw).trans e6
      have Fe7 := fun i => ((hFb i).cell (p := ⟨w.heap.size + 1, 7, none⟩) hpw).trans e7
      have Fc0 := fun i => ((hFb i).cell (p := ⟨b, off + j * 18, none⟩) hbw).trans c0
      have Fc1 := fun i => ((hFb i).cell (p := ⟨b, off + j * 18 + 1, none⟩) hbw).trans c1
      have Fc2 := fun i => ((hFb i).cell (p := ⟨b, off + j * 18 + 2, none⟩) hbw).trans c2
      have Fc3 := fun i => ((hFb i).cell (p := ⟨b, off + j * 18 + 3, none⟩) hbw).trans c3
      have Fc4 := fun i => ((hFb i).cell (p := ⟨b, off + j * 18 + 4, none⟩) hbw).trans c4
      have Fc5 := fun i => ((hFb i).cell (p := ⟨b, off + j * 18 + 5, none⟩) hbw).trans c5
      have Fc6 := fun i => ((hFb i).cell (p := ⟨b, off + j * 18 + 6, none⟩) hbw).trans c6
      have Fc7 := fun i => ((hFb i).cell (p := ⟨b, off + j * 18 + 7, none⟩) hbw).trans c7
      have Fc8 := fun i => ((hFb i).cell (p := ⟨b, off + j * 18 + 8, none⟩) hbw).trans c8
      have Fc9 := fun i => ((hFb i).cell (p := ⟨b, off + j * 18 + 9, none⟩) hbw).trans c9
      have Fc10 := fun i => ((hFb i).cell (p := ⟨b, off + j * 18 + 10, none⟩) hbw).trans c10
      have Fc11 := fun i => ((hFb i).cell (p := ⟨b, off + j * 18 + 11, none⟩) hbw).trans c11
      have Fc12 := fun i => ((hFb i).cell (p := ⟨b, off + j * 18 + 12, none⟩) hbw).trans c12
      have Fc13 := fun i => ((hFb i).cell (p := ⟨b, off + j * 18 + 13, none⟩) hbw).trans c13
      have Fc14 := fun i => ((hFb i).cell (p := ⟨b, off + j * 18 + 14, none⟩) hbw).trans c14
      have Fc15 := fun i => ((hFb i).cell (p := ⟨b, off + j * 18 + 15, none⟩) hbw).trans c15
      have Fc16 := fun i => ((hFb i).cell (p := ⟨b, off + j * 18 + 16, none⟩) hbw).trans c16
      have Fc17 := fun i => ((hFb i).cell (p := ⟨b, off + j * 18 + 17, none⟩) hbw).trans c17
      have HCF := Lib.hid (fun i => HC.out (F i) (hFb i))
      haveI : Nonempty ι := ⟨i0'⟩
      refine wp_region_quiet_fam F i0' h0' (by kernel_rfl) (by kernel_rfl) ?_
      repeat (go_big_quiet_step (first
        | (go_at_call 52; refine (HCF.out _).mono ?_; rintro e w4 ⟨rfl, hb4⟩; exact ⟨rfl, hcl _ _ hb4⟩)))
      refine wpQuiet_nil ?_
      intro i
      have S5 := Lib.hid (S.out.call (hFb i))
      clear HCF Fq0 Fq1 Fq2 Fq3 Fq4 Fq5 Fq6 Fq7 Fq8 Fq9 Fq10 Fe0 Fe1 Fe2 Fe3 Fe4 Fe5 Fe6 Fe7 q0 q1 q2 q3 q4 q5 q6 q7 q8 q9 q10 e0 e1 e2 e3 e4 e5 e6 e7
      clear Fc0 Fc1 Fc2 Fc3 Fc4 Fc5 Fc6 Fc7 Fc8 Fc9 Fc10 Fc11 Fc12 Fc13 Fc14 Fc15 Fc16 Fc17 c0 c1 c2 c3 c4 c5 c6 c7 c8 c9 c10 c11 c12 c13 c14 c15 c16 c17
      cases gb
      · have HXX := Lib.hid (HX.out.1 rfl)
        go_wp2
        go_ret
        exact ⟨by refine ret_bool rfl ?_; rw [HXX.out], S5.out.bel⟩
      · have HXX := Lib.hid (HX.out.2 rfl)
        go_wp2
        go_roundw
        case rel => exact ⟨j + 1, by omega, by go_num, S5, HXX⟩
        case measure => simp [intOf]; omega
    · have hltI : ¬ (j : Int) < m := by omega
      have HXX := Lib.hid (HRE.out j (by rw [HM.out]; omega) HA.out)
      go_wp2
      go_ret
      exact ⟨by refine ret_bool rfl ?_; rw [HXX.out], S.out.bel⟩
end Go.Proofs.Ytekamebpjjkifaa
