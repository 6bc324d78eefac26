/- Texts that belong together, joined: what each one holds is told ahead of it. -/
import Derived.Test.YtekamebpjjkifaaHK20
import Derived.Test.YtekamebpjjkifaaHK4
/- The checks of clearings, inputs and outputs, walked in the program. -/
namespace Go.Proofs.Ytekamebpjjkifaa
open Go.RowKit
set_option linter.unusedSimpArgs false
set_option linter.unusedVariables false

set_option maxRecDepth 100000 in
set_option maxHeartbeats 4000000 in
theorem k_in (k : KK) (n : Int) (p : KP) (B bc : Nat) (w : World) (hc : Chk w B bc k n) (hi : p.One w B) :
    Calls Try.prog 58 #[.pointer (some ⟨bc, 0, none⟩), .agg p.cells] w (RetV (.bool (shapeP p true false 1 1 0 0 0 0 0 0 && inputA k.vars k.chans.length p.c p.item p.tos)) w) := by
  obtain ⟨W0, hW0⟩ : ∃ W, w.alloc (.cells p.cells 31) = W := ⟨_, rfl⟩
  have b0 : Blk W0 w.heap.size 31 p.cells := by rw [← hW0]; exact Blk.new w _ _
  have K0 : Below w.heap.size w W0 := by rw [← hW0]; exact (Below.refl _ _).alloc (Nat.le_refl _) _
  have hc0 := hc.call K0
  have hi0 := hi.below (K0.mono hc.leB)
  have HK0 := Lib.hid K0
  have HB0 := Lib.hid b0
  have HSh := Lib.hid (fun w1 => kShapeP_tf p 1 1 0 0 0 0 0 0 w1)
  have hpw := b0.lt
  cases hs : shapeP p true false 1 1 0 0 0 0 0 0 with
  | false =>
    rw [hs] at HSh
    rw [Bool.false_and]
    simp only [KP.cells] at hW0 b0 HSh ⊢
    have e0 := b0.cell 0
    have e1 := b0.cell 1
    have e2 := b0.cell 2
    have e3 := b0.cell 3
    have e4 := b0.cell 4
    have e5 := b0.cell 5
    have e6 := b0.cell 6
    have e7 := b0.cell 7
    simp at e0 e1 e2 e3 e4 e5 e6 e7
    clear b0 K0 hc0 hi0 hc hi HB0 hs
    go_enter Try.func58, Try.ntmps58
    go_upto_region 1 with fail
    obtain ⟨ι, F, i0', h0', hFb, hcl⟩ := fam_below W0
    have Fe0 := fun i => ((hFb i).cell (p := ⟨w.heap.size, 0, none⟩) hpw).trans e0
    have Fe1 := fun i => ((hFb i).cell (p := ⟨w.heap.size, 1, none⟩) hpw).trans e1
    have Fe2 := fun i => ((hFb i).cell (p := ⟨w.heap.size, 2, none⟩) hpw).trans e2
    have Fe3 := fun i => ((hFb i).cell (p := ⟨w.heap.size, 3, none⟩) hpw).trans e3
    have Fe4 := fun i => ((hFb i).cell (p := ⟨w.heap.size, 4, none⟩) hpw).trans e4
    have Fe5 := fun i => ((hFb i).cell (p := ⟨w.heap.size, 5, none⟩) hpw).trans e5
    have Fe6 := fun i => ((hFb i).cell (p := ⟨w.heap.size, 6, none⟩) hpw).trans e6
    have Fe7 := fun i => ((hFb i).cell (p := ⟨w.heap.size, 7, none⟩) hpw).trans e7
    haveI : Nonempty ι := ⟨i0'⟩
    refine wp_region_quiet_fam F i0' h0' (by kernel_rfl) (by kernel_rfl) ?_
    repeat (go_big_quiet_step (first
      | (go_at_call 70; refine (HSh.out _).mono ?_; rintro e w4 ⟨rfl, hb4⟩; exact ⟨rfl, hcl _ _ hb4⟩)))
    refine wpQuiet_nil ?_
    intro i
    have K5 := Lib.hid (HK0.out.trans ((hFb i).mono HK0.out.size))
    go_wp2
    go_ret
    exact ⟨rfl, K5.out⟩
  | true =>
    rw [hs] at HSh
    rw [Bool.true_and]
    have hl := shapeP_len hs
    have hlen : p.tos.length = 1 := by omega
    obtain ⟨x, hx⟩ := len_one hlen
    have hp0 := hi0.2.1
    rw [hx] at hp0
    obtain ⟨b, off, y, hA, hb, hy, hin, c0, c1⟩ := kpls_at hp0 rfl (k := 0) (by simp)
    obtain rfl : x = y := by simpa using hy
    rw [Nat.zero_mul, Nat.add_zero] at c0 c1
    have hbw : b < W0.heap.size := Nat.lt_of_lt_of_le hb hc0.leB
    have hone := hi.1
    have HRX := Lib.hid (show (inputA k.vars k.chans.length p.c p.item p.tos) = (inputB k.vars k.chans.length p.c p.item x) by rw [hx]; rfl)
    have HX0 := Lib.hid (fun (w1 : World) (h : Below W0.heap.size W0 w1) => kInput k n p.c p.item x B bc w1 (hc0.call h) hone.2.1 (hin.below (h.mono hc0.leB)))
    generalize (inputA k.vars k.chans.length p.c p.item p.tos) = R at *
    generalize inputB k.vars k.chans.length p.c p.item x = fx at *
    simp only [KP.cells, hlen, hA] at hW0 b0 HSh HB0 ⊢
    simp only [KPl.cells] at HX0
    have e0 := b0.cell 0
    have e1 := b0.cell 1
    have e2 := b0.cell 2
    have e3 := b0.cell 3
    have e4 := b0.cell 4
    have e5 := b0.cell 5
    have e6 := b0.cell 6
    have e7 := b0.cell 7
    simp at e0 e1 e2 e3 e4 e5 e6 e7
    clear b0 K0 hc0 hi0 hc hi hs hl hx hp0 hy hin hA hlen hone
    go_enter Try.func58, Try.ntmps58
    go_upto_region 1 with fail
    obtain ⟨ι, F, i0', h0', hFb, hcl⟩ := fam_below W0
    have Fe0 := fun i => ((hFb i).cell (p := ⟨w.heap.size, 0, none⟩) hpw).trans e0
    have Fe1 := fun i => ((hFb i).cell (p := ⟨w.heap.size, 1, none⟩) hpw).trans e1
    have Fe2 := fun i => ((hFb i).cell (p := ⟨w.heap.size, 2, none⟩) hpw).trans e2
    have Fe3 := fun i => ((hFb i).cell (p := ⟨w.heap.size, 3, none⟩) hpw).trans e3
    have Fe4 := fun i => ((hFb i).cell (p := ⟨w.heap.size, 4, none⟩) hpw).trans e4
    have Fe5 := fun i => ((hFb i).cell (p := ⟨w.heap.size, 5, none⟩) hpw).trans e5
    have Fe6 := fun i => ((hFb i).cell (p := ⟨w.heap.size, 6, none⟩) hpw).trans e6
    have Fe7 := fun i => ((hFb i).cell (p := ⟨w.heap.size, 7, none⟩) hpw).trans e7
    have Fc0 := fun i => ((hFb i).cell (p := ⟨b, off, none⟩) hbw).trans c0
    have Fc1 := fun i => ((hFb i).cell (p := ⟨b, off + 1, none⟩) hbw).trans c1
    have HCX := Lib.hid (fun i => HX0.out (F i) (hFb i))
    haveI : Nonempty ι := ⟨i0'⟩
    refine wp_region_quiet_fam F i0' h0' (by kernel_rfl) (by kernel_rfl) ?_
    repeat (go_big_quiet_step (first
      | (go_at_call 70; refine (HSh.out _).mono ?_; rintro e w4 ⟨rfl, hb4⟩; exact ⟨rfl, hcl _ _ hb4⟩)
      | (go_at_call 73; refine (HCX.out _).mono ?_; rintro e w4 ⟨rfl, hb4⟩; exact ⟨rfl, hcl _ _ hb4⟩)))
    refine wpQuiet_nil ?_
    intro i
    have K5 := Lib.hid (HK0.out.trans ((hFb i).mono HK0.out.size))
    go_wp2
    go_ret
    exact ⟨by rw [HRX.out]; rfl, K5.out⟩
set_option maxRecDepth 100000 in
set_option maxHeartbeats 4000000 in
theorem k_out (k : KK) (n : Int) (p : KP) (B bc : Nat) (w : World) (hc : Chk w B bc k n) (hi : p.One w B) :
    Calls Try.prog 59 #[.pointer (some ⟨bc, 0, none⟩), .agg p.cells] w (RetV (.bool (shapeP p true false 0 0 1 1 0 0 0 0 && channelB k.chans.length p.c p.item 0 && FitsA k.vars p.e p.item)) w) := by
  obtain ⟨W0, hW0⟩ : ∃ W, w.alloc (.cells p.cells 31) = W := ⟨_, rfl⟩
  have b0 : Blk W0 w.heap.size 31 p.cells := by rw [← hW0]; exact Blk.new w _ _
  have K0 : Below w.heap.size w W0 := by rw [← hW0]; exact (Below.refl _ _).alloc (Nat.le_refl _) _
  have hc0 := hc.call K0
  have hi0 := hi.below (K0.mono hc.leB)
  have HK0 := Lib.hid K0
  have HB0 := Lib.hid b0
  have HSh := Lib.hid (fun w1 => kShapeP_tf p 0 0 1 1 0 0 0 0 w1)
  have hpw := b0.lt
  cases hs : shapeP p true false 0 0 1 1 0 0 0 0 with
  | false =>
    rw [hs] at HSh
    rw [Bool.false_and]
    simp only [KP.cells] at hW0 b0 HSh ⊢
    have e0 := b0.cell 0
    have e1 := b0.cell 1
    have e2 := b0.cell 2
    have e3 := b0.cell 3
    have e4 := b0.cell 4
    have e5 := b0.cell 5
    have e6 := b0.cell 6
    have e7 := b0.cell 7
    simp at e0 e1 e2 e3 e4 e5 e6 e7
    clear b0 K0 hc0 hi0 hc hi HB0 hs
    go_enter Try.func59, Try.ntmps59
    go_upto_region 1 with fail
    obtain ⟨ι, F, i0', h0', hFb, hcl⟩ := fam_below W0
    have Fe0 := fun i => ((hFb i).cell (p := ⟨w.heap.size, 0, none⟩) hpw).trans e0
    have Fe1 := fun i => ((hFb i).cell (p := ⟨w.heap.size, 1, none⟩) hpw).trans e1
    have Fe2 := fun i => ((hFb i).cell (p := ⟨w.heap.size, 2, none⟩) hpw).trans e2
    have Fe3 := fun i => ((hFb i).cell (p := ⟨w.heap.size, 3, none⟩) hpw).trans e3
    have Fe4 := fun i => ((hFb i).cell (p := ⟨w.heap.size, 4, none⟩) hpw).trans e4
    have Fe5 := fun i => ((hFb i).cell (p := ⟨w.heap.size, 5, none⟩) hpw).trans e5
    have Fe6 := fun i => ((hFb i).cell (p := ⟨w.heap.size, 6, none⟩) hpw).trans e6
    have Fe7 := fun i => ((hFb i).cell (p := ⟨w.heap.size, 7, none⟩) hpw).trans e7
    haveI : Nonempty ι := ⟨i0'⟩
    refine wp_region_quiet_fam F i0' h0' (by kernel_rfl) (by kernel_rfl) ?_
    repeat (go_big_quiet_step (first
      | (go_at_call 70; refine (HSh.out _).mono ?_; rintro e w4 ⟨rfl, hb4⟩; exact ⟨rfl, hcl _ _ hb4⟩)))
    refine wpQuiet_nil ?_
    intro i
    have K5 := Lib.hid (HK0.out.trans ((hFb i).mono HK0.out.size))
    go_wp2
    go_ret
    exact ⟨rfl, K5.out⟩
  | true =>
    rw [hs] at HSh
    rw [Bool.true_and]
    have hl := shapeP_len hs
    have hlen : p.e.length = 1 := by omega
    obtain ⟨x, hx⟩ := len_one hlen
    have hp0 := hi0.2.2.1
    rw [hx] at hp0
    obtain ⟨b, off, y, hA, hb, hy, hin, c0, c1, c2, c3, c4, c5⟩ := kes_six hp0 (k := 0) (by simp)
    obtain rfl : x = y := by simpa using hy
    rw [Nat.zero_mul, Nat.add_zero] at c0 c1 c2 c3 c4 c5
    have hbw : b < W0.heap.size := Nat.lt_of_lt_of_le hb hc0.leB
    have hone := hi.1
    have HRX := Lib.hid (show (channelB k.chans.length p.c p.item 0 && FitsA k.vars p.e p.item) = (channelB k.chans.length p.c p.item 0 && FitsB k.vars x p.item) by rw [hx]; rfl)
    have HX0 := Lib.hid (fun (w1 : World) (h : Below W0.heap.size W0 w1) => kChannel k n p.c 0 p.item B bc w1 (hc0.call h) hone.2.1)
    have HX1 := Lib.hid (fun (hp : primB p.item = true) (w1 : World) (h : Below W0.heap.size W0 w1) => kFits k n x p.item (by rcases primB_cases hp with h | h | h <;> simp [h]) B bc w1 (hc0.call h) (hin.below (h.mono hc0.leB)))
    generalize (channelB k.chans.length p.c p.item 0 && FitsA k.vars p.e p.item) = R at *
    have HPR := Lib.hid (fun (h : channelB k.chans.length p.c p.item 0 = true) => show primB p.item = true by simp only [channelB, Bool.and_eq_true] at h; exact h.1.2)
    generalize channelB k.chans.length p.c p.item 0 = cb at *
    generalize FitsB k.vars x p.item = fx at *
    simp only [KP.cells, hlen, hA] at hW0 b0 HSh HB0 ⊢
    simp only [KE.cells] at HX1
    have e0 := b0.cell 0
    have e1 := b0.cell 1
    have e2 := b0.cell 2
    have e3 := b0.cell 3
    have e4 := b0.cell 4
    have e5 := b0.cell 5
    have e6 := b0.cell 6
    have e7 := b0.cell 7
    simp at e0 e1 e2 e3 e4 e5 e6 e7
    clear b0 K0 hc0 hi0 hc hi hs hl hx hp0 hy hin hA hlen hone
    cases cb with
    | false =>
      clear HX1 HPR
      go_enter Try.func59, Try.ntmps59
      go_upto_region 1 with fail
      obtain ⟨ι, F, i0', h0', hFb, hcl⟩ := fam_below W0
      have Fe0 := fun i => ((hFb i).cell (p := ⟨w.heap.size, 0, none⟩) hpw).trans e0
      have Fe1 := fun i => ((hFb i).cell (p := ⟨w.heap.size, 1, none⟩) hpw).trans e1
      have Fe2 := fun i => ((hFb i).cell (p := ⟨w.heap.size, 2, none⟩) hpw).trans e2
      have Fe3 := fun i => ((hFb i).cell (p := ⟨w.heap.size, 3, none⟩) hpw).trans e3
      have Fe4 := fun i => ((hFb i).cell (p := ⟨w.heap.size, 4, none⟩) hpw).trans e4
      have Fe5 := fun i => ((hFb i).cell (p := ⟨w.heap.size, 5, none⟩) hpw).trans e5
      have Fe6 := fun i => ((hFb i).cell (p := ⟨w.heap.size, 6, none⟩) hpw).trans e6
      have Fe7 := fun i => ((hFb i).cell (p := ⟨w.heap.size, 7, none⟩) hpw).trans e7
      have HCX := Lib.hid (fun i => HX0.out (F i) (hFb i))
      haveI : Nonempty ι := ⟨i0'⟩
      refine wp_region_quiet_fam F i0' h0' (by kernel_rfl) (by kernel_rfl) ?_
      repeat (go_big_quiet_step (first
        | (go_at_call 70; refine (HSh.out _).mono ?_; rintro e w4 ⟨rfl, hb4⟩; exact ⟨rfl, hcl _ _ hb4⟩)
        | (go_at_call 74; refine (HCX.out _).mono ?_; rintro e w4 ⟨rfl, rfl⟩; exact ⟨rfl, _, rfl⟩)))
      refine wpQuiet_nil ?_
      intro i
      have K5 := Lib.hid (HK0.out.trans ((hFb i).mono HK0.out.size))
      go_wp2
      go_ret
      exact ⟨by rw [HRX.out]; rfl, K5.out⟩
    | true =>
      have HX2 := Lib.hid (HX1.out (HPR.out rfl))
      clear HX1 HPR
      go_enter Try.func59, Try.ntmps59
      go_upto_region 1 with fail
      obtain ⟨ι, F, i0', h0', hFb, hcl⟩ := fam_below W0
      have Fe0 := fun i => ((hFb i).cell (p := ⟨w.heap.size, 0, none⟩) hpw).trans e0
      have Fe1 := fun i => ((hFb i).cell (p := ⟨w.heap.size, 1, none⟩) hpw).trans e1
      have Fe2 := fun i => ((hFb i).cell (p := ⟨w.heap.size, 2, none⟩) hpw).trans e2
      have Fe3 := fun i => ((hFb i).cell (p := ⟨w.heap.size, 3, none⟩) hpw).trans e3
      have Fe4 := fun i => ((hFb i).cell (p := ⟨w.heap.size, 4, none⟩) hpw).trans e4
      have Fe5 := fun i => ((hFb i).cell (p := ⟨w.heap.size, 5, none⟩) hpw).trans e5
      have Fe6 := fun i => ((hFb i).cell (p := ⟨w.heap.size, 6, none⟩) hpw).trans e6
      have Fe7 := fun i => ((hFb i).cell (p := ⟨w.heap.size, 7, none⟩) hpw).trans e7
      have Fc0 := fun i => ((hFb i).cell (p := ⟨b, off, none⟩) hbw).trans c0
      have Fc1 := fun i => ((hFb i).cell (p := ⟨b, off + 1, none⟩) hbw).trans c1
      have Fc2 := fun i => ((hFb i).cell (p := ⟨b, off + 2, none⟩) hbw).trans c2
      have Fc3 := fun i => ((hFb i).cell (p := ⟨b, off + 3, none⟩) hbw).trans c3
      have Fc4 := fun i => ((hFb i).cell (p := ⟨b, off + 4, none⟩) hbw).trans c4
      have Fc5 := fun i => ((hFb i).cell (p := ⟨b, off + 5, none⟩) hbw).trans c5
      have HCX := Lib.hid (fun i => HX0.out (F i) (hFb i))
      have HCF := Lib.hid (fun i => HX2.out (F i) (hFb i))
      haveI : Nonempty ι := ⟨i0'⟩
      refine wp_region_quiet_fam F i0' h0' (by kernel_rfl) (by kernel_rfl) ?_
      repeat (go_big_quiet_step (first
        | (go_at_call 70; refine (HSh.out _).mono ?_; rintro e w4 ⟨rfl, hb4⟩; exact ⟨rfl, hcl _ _ hb4⟩)
        | (go_at_call 74; refine (HCX.out _).mono ?_; rintro e w4 ⟨rfl, rfl⟩; exact ⟨rfl, _, rfl⟩)
        | (go_at_call 72; refine (HCF.out _).mono ?_; rintro e w4 ⟨rfl, hb4⟩; exact ⟨rfl, hcl _ _ hb4⟩)))
      refine wpQuiet_nil ?_
      intro i
      have K5 := Lib.hid (HK0.out.trans ((hFb i).mono HK0.out.size))
      go_wp2
      go_ret
      exact ⟨by rw [HRX.out]; rfl, K5.out⟩
set_option maxRecDepth 100000 in
set_option maxHeartbeats 4000000 in
theorem k_clear (k : KK) (n : Int) (p : KP) (B bc : Nat) (w : World) (hc : Chk w B bc k n) (hi : p.One w B) :
    Calls Try.prog 56 #[.pointer (some ⟨bc, 0, none⟩), .agg p.cells] w (RetV (.bool (shapeP p false true 0 0 0 0 0 0 0 0 && decide (0 ≤ p.v ∧ p.v < k.vars.length))) w) := by
  obtain ⟨W0, hW0⟩ : ∃ W, w.alloc (.cells p.cells 31) = W := ⟨_, rfl⟩
  have b0 : Blk W0 w.heap.size 31 p.cells := by rw [← hW0]; exact Blk.new w _ _
  have K0 : Below w.heap.size w W0 := by rw [← hW0]; exact (Below.refl _ _).alloc (Nat.le_refl _) _
  have hc0 := hc.call K0
  have hi0 := hi.below (K0.mono hc.leB)
  have HK0 := Lib.hid K0
  have HB0 := Lib.hid b0
  have HSh := Lib.hid (fun w1 => kShapeP_ft p 0 0 0 0 0 0 0 0 w1)
  have hpw := b0.lt
  have hcw := hc0.lt
  have v0 := hc0.c0
  have HD := Lib.hid (show decide (0 ≤ p.v ∧ p.v < k.vars.length) = (decide (0 ≤ p.v) && decide (p.v < (k.vars.length : Int))) by rw [Bool.decide_and])
  generalize decide (0 ≤ p.v ∧ p.v < k.vars.length) = R at *
  cases hs : shapeP p false true 0 0 0 0 0 0 0 0 with
  | false =>
    rw [hs] at HSh
    rw [Bool.false_and]
    simp only [KP.cells] at hW0 b0 HSh ⊢
    have e0 := b0.cell 0
    have e1 := b0.cell 1
    have e2 := b0.cell 2
    have e3 := b0.cell 3
    have e4 := b0.cell 4
    have e5 := b0.cell 5
    have e6 := b0.cell 6
    have e7 := b0.cell 7
    simp at e0 e1 e2 e3 e4 e5 e6 e7
    clear b0 K0 hc0 hi0 hc hi HB0 hs
    go_enter Try.func56, Try.ntmps56
    go_upto_region 1 with fail
    obtain ⟨ι, F, i0', h0', hFb, hcl⟩ := fam_below W0
    have Fe0 := fun i => ((hFb i).cell (p := ⟨w.heap.size, 0, none⟩) hpw).trans e0
    have Fe1 := fun i => ((hFb i).cell (p := ⟨w.heap.size, 1, none⟩) hpw).trans e1
    have Fe2 := fun i => ((hFb i).cell (p := ⟨w.heap.size, 2, none⟩) hpw).trans e2
    have Fe3 := fun i => ((hFb i).cell (p := ⟨w.heap.size, 3, none⟩) hpw).trans e3
    have Fe4 := fun i => ((hFb i).cell (p := ⟨w.heap.size, 4, none⟩) hpw).trans e4
    have Fe5 := fun i => ((hFb i).cell (p := ⟨w.heap.size, 5, none⟩) hpw).trans e5
    have Fe6 := fun i => ((hFb i).cell (p := ⟨w.heap.size, 6, none⟩) hpw).trans e6
    have Fe7 := fun i => ((hFb i).cell (p := ⟨w.heap.size, 7, none⟩) hpw).trans e7
    haveI : Nonempty ι := ⟨i0'⟩
    refine wp_region_quiet_fam F i0' h0' (by kernel_rfl) (by kernel_rfl) ?_
    repeat (go_big_quiet_step (first
      | (go_at_call 70; refine (HSh.out _).mono ?_; rintro e w4 ⟨rfl, hb4⟩; exact ⟨rfl, hcl _ _ hb4⟩)))
    refine wpQuiet_nil ?_
    intro i
    have K5 := Lib.hid (HK0.out.trans ((hFb i).mono HK0.out.size))
    go_wp2
    go_ret
    exact ⟨rfl, K5.out⟩
  | true =>
    rw [hs] at HSh
    rw [Bool.true_and]
    simp only [KP.cells] at hW0 b0 HSh ⊢
    have e0 := b0.cell 0
    have e1 := b0.cell 1
    have e2 := b0.cell 2
    have e3 := b0.cell 3
    have e4 := b0.cell 4
    have e5 := b0.cell 5
    have e6 := b0.cell 6
    have e7 := b0.cell 7
    simp at e0 e1 e2 e3 e4 e5 e6 e7
    clear b0 K0 hc0 hi0 hc hi HB0 hs
    by_cases h0 : 0 ≤ p.v
    · have HR := Lib.hid (show R = decide (p.v < (k.vars.length : Int)) by rw [HD.out, decide_eq_true h0]; rfl)
      go_enter Try.func56, Try.ntmps56
      go_upto_region 1 with fail
      obtain ⟨ι, F, i0', h0', hFb, hcl⟩ := fam_below W0
      have Fe0 := fun i => ((hFb i).cell (p := ⟨w.heap.size, 0, none⟩) hpw).trans e0
      have Fe1 := fun i => ((hFb i).cell (p := ⟨w.heap.size, 1, none⟩) hpw).trans e1
      have Fe2 := fun i => ((hFb i).cell (p := ⟨w.heap.size, 2, none⟩) hpw).trans e2
      have Fe3 := fun i => ((hFb i).cell (p := ⟨w.heap.size, 3, none⟩) hpw).trans e3
      have Fe4 := fun i => ((hFb i).cell (p := ⟨w.heap.size, 4, none⟩) hpw).trans e4
      have Fe5 := fun i => ((hFb i).cell (p := ⟨w.heap.size, 5, none⟩) hpw).trans e5
      have Fe6 := fun i => ((hFb i).cell (p := ⟨w.heap.size, 6, none⟩) hpw).trans e6
      have Fe7 := fun i => ((hFb i).cell (p := ⟨w.heap.size, 7, none⟩) hpw).trans e7
      have Fv0 := fun i => ((hFb i).cell (p := ⟨bc, 0, none⟩) hcw).trans v0
      haveI : Nonempty ι := ⟨i0'⟩
      refine wp_region_quiet_fam F i0' h0' (by kernel_rfl) (by kernel_rfl) ?_
      repeat (go_big_quiet_step (first
        | (go_at_call 70; refine (HSh.out _).mono ?_; rintro e w4 ⟨rfl, hb4⟩; exact ⟨rfl, hcl _ _ hb4⟩)))
      refine wpQuiet_nil ?_
      intro i
      have K5 := Lib.hid (HK0.out.trans ((hFb i).mono HK0.out.size))
      go_wp2
      go_ret
      exact ⟨by refine ret_bool rfl ?_; rw [HR.out], K5.out⟩
    · have HR := Lib.hid (show R = false by rw [HD.out, decide_eq_false h0]; rfl)
      go_enter Try.func56, Try.ntmps56
      go_upto_region 1 with fail
      obtain ⟨ι, F, i0', h0', hFb, hcl⟩ := fam_below W0
      have Fe0 := fun i => ((hFb i).cell (p := ⟨w.heap.size, 0, none⟩) hpw).trans e0
      have Fe1 := fun i => ((hFb i).cell (p := ⟨w.heap.size, 1, none⟩) hpw).trans e1
      have Fe2 := fun i => ((hFb i).cell (p := ⟨w.heap.size, 2, none⟩) hpw).trans e2
      have Fe3 := fun i => ((hFb i).cell (p := ⟨w.heap.size, 3, none⟩) hpw).trans e3
      have Fe4 := fun i => ((hFb i).cell (p := ⟨w.heap.size, 4, none⟩) hpw).trans e4
      have Fe5 := fun i => ((hFb i).cell (p := ⟨w.heap.size, 5, none⟩) hpw).trans e5
      have Fe6 := fun i => ((hFb i).cell (p := ⟨w.heap.size, 6, none⟩) hpw).trans e6
      have Fe7 := fun i => ((hFb i).cell (p := ⟨w.heap.size, 7, none⟩) hpw).trans e7
      have Fv0 := fun i => ((hFb i).cell (p := ⟨bc, 0, none⟩) hcw).trans v0
      haveI : Nonempty ι := ⟨i0'⟩
      refine wp_region_quiet_fam F i0' h0' (by kernel_rfl) (by kernel_rfl) ?_
      repeat (go_big_quiet_step (first
        | (go_at_call 70; refine (HSh.out _).mono ?_; rintro e w4 ⟨rfl, hb4⟩; exact ⟨rfl, hcl _ _ hb4⟩)))
      refine wpQuiet_nil ?_
      intro i
      have K5 := Lib.hid (HK0.out.trans ((hFb i).mono HK0.out.size))
      go_wp2
      go_ret
      exact ⟨by refine ret_bool rfl ?_; rw [HR.out], K5.out⟩
end Go.Proofs.Ytekamebpjjkifaa
