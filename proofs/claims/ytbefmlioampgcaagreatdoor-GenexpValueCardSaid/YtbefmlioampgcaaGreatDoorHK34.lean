/- Texts that belong together, joined: what each one holds is told ahead of it. -/
import Derived.Test.YtbefmlioampgcaaGreatDoorHK3
import Derived.Laws.Rows
set_option linter.unusedVariables false
set_option linter.unusedSimpArgs false
/- The operations of expressions' code, walked in the program. -/
namespace Go.Proofs.YtbefmlioampgcaaGreatDoor
open Go.RowKit
set_option linter.unusedVariables false
set_option linter.unusedSimpArgs false

/-- What operate leaves: the registers behind the operation, or as they were. -/
def RetOp (R : Option RegL) (r : RegL) (s : Nat) (w : World) (e : Ending) (w' : World) : Prop :=
  e = .returned (.tuple #[.pointer (some ⟨s, 0, none⟩), .bool R.isSome]) ∧ UpdB s w w' ∧ Blk w' s 79 (R.getD r).cells
theorem i32_not' (v : Int) (h : is32 v) : bits .xor .i32 (-1) v = -1 - v := by
  unfold is32 at h
  have h1 : (BitVec.ofInt 32 (-1) ^^^ BitVec.ofInt 32 v).toNat = 4294967295 - (v % ((2 ^ 32 : Nat) : Int)).toNat := by
    have e : BitVec.ofInt 32 (-1) = BitVec.allOnes 32 := by decide
    rw [e, BitVec.allOnes_xor, BitVec.toNat_not, BitVec.toNat_ofInt]
  show IntKind.i32.wrap ((BitVec.ofInt 32 (-1) ^^^ BitVec.ofInt 32 v).toNat : Nat) = -1 - v
  rw [h1, IntKind.wrap_i32]
  omega
theorem divF_eq (x y : Int) : divF x y = rv (if y = 0 ∨ (x = -2147483648 ∧ y = -1) then ((0 : Int), true) else (x.tdiv y, false)).1 (if y = 0 ∨ (x = -2147483648 ∧ y = -1) then ((0 : Int), true) else (x.tdiv y, false)).2 := by unfold divF; split <;> rfl
theorem remF_eq (x y : Int) : remF x y = rv (if y = 0 then ((0 : Int), true) else (x.tmod y, false)).1 (if y = 0 then ((0 : Int), true) else (x.tmod y, false)).2 := by unfold remF; split <;> rfl
theorem Blk.eq_ {w : World} {g : Nat} {t : TypeId} {a b : Array Value} (h : Blk w g t a) (e : a = b) : Blk w g t b := e ▸ h
set_option maxRecDepth 100000 in
set_option maxHeartbeats 8000000 in
theorem wOperate (r : RegL) (hr : r.Ok) (op : Int) (s : Nat) (w : World) (hs : Blk w s 79 r.cells) :
    Calls Tryz.prog 48 #[.pointer (some ⟨s, 0, none⟩), .int .i32 op] w (RetOp (opR r op) r s w) := by
  have HS := Lib.hid hs
  obtain ⟨ra, rb, rc, re⟩ := r
  obtain ⟨ha, hb, hc⟩ := hr
  have HA := Lib.hid ha
  have HB := Lib.hid hb
  simp only [RegL.cells] at hs ha hb hc HA HB
  have c0 := hs.cell 0
  have c1 := hs.cell 1
  have c2 := hs.cell 2
  have c3 := hs.cell 3
  simp at c0 c1 c2 c3
  have f0 := hs.frozen 0
  have f1 := hs.frozen 1
  have f2 := hs.frozen 2
  have f3 := hs.frozen 3
  have hlt := hs.lt
  have HP : Hid (∀ w', Blk w' s 79 (RegL.mk ra rb rc re).cells → Calls Tryz.prog 24 #[.pointer (some ⟨s, 0, none⟩)] w' (RetR (.tuple #[]) ⟨rb, rc, rc, re⟩ s w')) := Lib.hid fun w' h => wPop _ s w' h
  clear hs ha hb hc
  go_enter Tryz.func48, Tryz.ntmps48
  go_wp2
  go_quiet (fail)
  rename_i nq
  have HS1 : Hid (Blk (w.drewN nq) s 79 (RegL.mk ra rb rc re).cells) := Lib.hid (HS.out.drewN nq)
  have HU1 : Hid (UpdB s w (w.drewN nq)) := Lib.hid (UpdB.of_below (below_drewN (Below.refl _ _) _))
  by_cases h0 : op = 0
  · subst h0
    go_wp2
    go_ret2
    exact ⟨rfl, ((HU1.out).set1).set1, ((HS1.out.set_ 0 _).set_ 1 _).eq_ (by simp [opR, binO, RegL.cells, RegL.join, *])⟩
  by_cases h50 : op = 50
  · subst h50
    have hx : bits .xor .i32 (if IntKind.i32.signed = true then -1 else IntKind.i32.max) ra = -1 - ra := i32_not' ra HA.out
    go_wp2
    go_ret2
    exact ⟨rfl, (HU1.out).set1, (HS1.out.set_ 0 _).eq_ (by simp [opR, binO, RegL.cells, RegL.join, *])⟩
  by_cases h41 : op = 41
  · subst h41
    go_wp2_with first
      | (go_at_call 47; refine (wTruth _ _).mono ?_; rintro e w1 ⟨rfl, rfl⟩)
      | (go_at_call 45; refine (wPush _ _ _ _ HS1.out).mono ?_; rintro e w2 ⟨rfl, hu, hb2⟩
         have HB2 := Lib.hid hb2
         have HU := Lib.hid hu
         simp only [RegL.cells, RegL.push] at hb2
         have d0 := hb2.cell 0
         have d1 := hb2.cell 1
         have d2 := hb2.cell 2
         have d3 := hb2.cell 3
         simp at d0 d1 d2 d3
         have g0 := hb2.frozen 0
         have g1 := hb2.frozen 1
         have g2 := hb2.frozen 2
         have g3 := hb2.frozen 3
         clear hu hb2)
    go_ret2
    exact ⟨rfl, (HU1.out.trans HU.out).set1, (HB2.out.set_ 3 _).eq_ (by simp [opR, binO, RegL.cells, RegL.join, RegL.push])⟩
  by_cases h5 : op = 5
  · subst h5
    go_wp2_with first
      | (go_at_call 46; refine (wAdd _ _ _ HB.out HA.out).mono ?_; unfold addF rv; rintro e w1 ⟨rfl, rfl⟩)
      | (go_at_call 24; refine (HP.out _ HS1.out).mono ?_; rintro e w2 ⟨rfl, hu, hb2⟩
         have HB2 := Lib.hid hb2
         have HU := Lib.hid hu
         simp only [RegL.cells] at hb2
         have d0 := hb2.cell 0
         have d1 := hb2.cell 1
         have d2 := hb2.cell 2
         have d3 := hb2.cell 3
         simp at d0 d1 d2 d3
         have g0 := hb2.frozen 0
         have g1 := hb2.frozen 1
         have g2 := hb2.frozen 2
         have g3 := hb2.frozen 3
         clear hu hb2)
    all_goals
      go_ret2
      exact ⟨rfl, ((HU1.out.trans HU.out).set1).set1, ((HB2.out.set_ 0 _).set_ 3 _).eq_ (by simp [opR, binO, RegL.cells, RegL.join, *])⟩
  by_cases h12 : op = 12
  · subst h12
    go_wp2_with first
      | (go_at_call 66; refine (wSub _ _ _ HB.out HA.out).mono ?_; unfold subF rv; rintro e w1 ⟨rfl, rfl⟩)
      | (go_at_call 24; refine (HP.out _ HS1.out).mono ?_; rintro e w2 ⟨rfl, hu, hb2⟩
         have HB2 := Lib.hid hb2
         have HU := Lib.hid hu
         simp only [RegL.cells] at hb2
         have d0 := hb2.cell 0
         have d1 := hb2.cell 1
         have d2 := hb2.cell 2
         have d3 := hb2.cell 3
         simp at d0 d1 d2 d3
         have g0 := hb2.frozen 0
         have g1 := hb2.frozen 1
         have g2 := hb2.frozen 2
         have g3 := hb2.frozen 3
         clear hu hb2)
    all_goals
      go_ret2
      exact ⟨rfl, ((HU1.out.trans HU.out).set1).set1, ((HB2.out.set_ 0 _).set_ 3 _).eq_ (by simp [opR, binO, RegL.cells, RegL.join, *])⟩
  by_cases h83 : op = 83
  · subst h83
    go_wp2_with first
      | (go_at_call 67; refine (wMul _ _ _ HB.out HA.out).mono ?_; unfold mulF rv; rintro e w1 ⟨rfl, rfl⟩)
      | (go_at_call 24; refine (HP.out _ HS1.out).mono ?_; rintro e w2 ⟨rfl, hu, hb2⟩
         have HB2 := Lib.hid hb2
         have HU := Lib.hid hu
         simp only [RegL.cells] at hb2
         have d0 := hb2.cell 0
         have d1 := hb2.cell 1
         have d2 := hb2.cell 2
         have d3 := hb2.cell 3
         simp at d0 d1 d2 d3
         have g0 := hb2.frozen 0
         have g1 := hb2.frozen 1
         have g2 := hb2.frozen 2
         have g3 := hb2.frozen 3
         clear hu hb2)
    all_goals
      go_ret2
      exact ⟨rfl, ((HU1.out.trans HU.out).set1).set1, ((HB2.out.set_ 0 _).set_ 3 _).eq_ (by simp [opR, binO, RegL.cells, RegL.join, *])⟩
  by_cases h44 : op = 44
  · subst h44
    go_wp2_with first
      | (go_at_call 68; refine (wDiv _ _ _ HB.out HA.out).mono ?_; rw [divF_eq]; unfold rv; rintro e w1 ⟨rfl, rfl⟩)
      | (go_at_call 24; refine (HP.out _ HS1.out).mono ?_; rintro e w2 ⟨rfl, hu, hb2⟩
         have HB2 := Lib.hid hb2
         have HU := Lib.hid hu
         simp only [RegL.cells] at hb2
         have d0 := hb2.cell 0
         have d1 := hb2.cell 1
         have d2 := hb2.cell 2
         have d3 := hb2.cell 3
         simp at d0 d1 d2 d3
         have g0 := hb2.frozen 0
         have g1 := hb2.frozen 1
         have g2 := hb2.frozen 2
         have g3 := hb2.frozen 3
         clear hu hb2)
    all_goals
      go_ret2
      exact ⟨rfl, ((HU1.out.trans HU.out).set1).set1, ((HB2.out.set_ 0 _).set_ 3 _).eq_ (by simp [opR, binO, RegL.cells, RegL.join, *])⟩
  by_cases h31 : op = 31
  · subst h31
    go_wp2_with first
      | (go_at_call 69; refine (wRem _ _ _ HB.out HA.out).mono ?_; rw [remF_eq]; unfold rv; rintro e w1 ⟨rfl, rfl⟩)
      | (go_at_call 24; refine (HP.out _ HS1.out).mono ?_; rintro e w2 ⟨rfl, hu, hb2⟩
         have HB2 := Lib.hid hb2
         have HU := Lib.hid hu
         simp only [RegL.cells] at hb2
         have d0 := hb2.cell 0
         have d1 := hb2.cell 1
         have d2 := hb2.cell 2
         have d3 := hb2.cell 3
         simp at d0 d1 d2 d3
         have g0 := hb2.frozen 0
         have g1 := hb2.frozen 1
         have g2 := hb2.frozen 2
         have g3 := hb2.frozen 3
         clear hu hb2)
    all_goals
      go_ret2
      exact ⟨rfl, ((HU1.out.trans HU.out).set1).set1, ((HB2.out.set_ 0 _).set_ 3 _).eq_ (by simp [opR, binO, RegL.cells, RegL.join, *])⟩
  by_cases h82 : op = 82
  · subst h82
    go_wp2_with first
      | (go_at_call 70; refine (wSum _ _ _).mono ?_; rintro e w1 ⟨rfl, rfl⟩)
      | (go_at_call 24; refine (HP.out _ HS1.out).mono ?_; rintro e w2 ⟨rfl, hu, hb2⟩
         have HB2 := Lib.hid hb2
         have HU := Lib.hid hu
         simp only [RegL.cells] at hb2
         have d0 := hb2.cell 0
         have d1 := hb2.cell 1
         have d2 := hb2.cell 2
         have d3 := hb2.cell 3
         simp at d0 d1 d2 d3
         have g0 := hb2.frozen 0
         have g1 := hb2.frozen 1
         have g2 := hb2.frozen 2
         have g3 := hb2.frozen 3
         clear hu hb2)
    all_goals
      go_ret2
      exact ⟨rfl, ((HU1.out.trans HU.out).set1).set1, ((HB2.out.set_ 0 _).set_ 3 _).eq_ (by simp [opR, binO, RegL.cells, RegL.join, *])⟩
  by_cases h4 : op = 4
  · subst h4
    go_wp2_with first
      | (go_at_call 71; refine (wDiff _ _ _).mono ?_; rintro e w1 ⟨rfl, rfl⟩)
      | (go_at_call 24; refine (HP.out _ HS1.out).mono ?_; rintro e w2 ⟨rfl, hu, hb2⟩
         have HB2 := Lib.hid hb2
         have HU := Lib.hid hu
         simp only [RegL.cells] at hb2
         have d0 := hb2.cell 0
         have d1 := hb2.cell 1
         have d2 := hb2.cell 2
         have d3 := hb2.cell 3
         simp at d0 d1 d2 d3
         have g0 := hb2.frozen 0
         have g1 := hb2.frozen 1
         have g2 := hb2.frozen 2
         have g3 := hb2.frozen 3
         clear hu hb2)
    all_goals
      go_ret2
      exact ⟨rfl, ((HU1.out.trans HU.out).set1).set1, ((HB2.out.set_ 0 _).set_ 3 _).eq_ (by simp [opR, binO, RegL.cells, RegL.join, *])⟩
  by_cases h8 : op = 8
  · subst h8
    go_wp2_with first
      | (go_at_call 72; refine (wProd _ _ _).mono ?_; rintro e w1 ⟨rfl, rfl⟩)
      | (go_at_call 24; refine (HP.out _ HS1.out).mono ?_; rintro e w2 ⟨rfl, hu, hb2⟩
         have HB2 := Lib.hid hb2
         have HU := Lib.hid hu
         simp only [RegL.cells] at hb2
         have d0 := hb2.cell 0
         have d1 := hb2.cell 1
         have d2 := hb2.cell 2
         have d3 := hb2.cell 3
         simp at d0 d1 d2 d3
         have g0 := hb2.frozen 0
         have g1 := hb2.frozen 1
         have g2 := hb2.frozen 2
         have g3 := hb2.frozen 3
         clear hu hb2)
    all_goals
      go_ret2
      exact ⟨rfl, ((HU1.out.trans HU.out).set1).set1, ((HB2.out.set_ 0 _).set_ 3 _).eq_ (by simp [opR, binO, RegL.cells, RegL.join, *])⟩
  by_cases h70 : op = 70
  · subst h70
    go_wp2_with first
      | (go_at_call 47; refine (wTruth _ _).mono ?_; rintro e w1 ⟨rfl, rfl⟩)
      | (go_at_call 24; refine (HP.out _ HS1.out).mono ?_; rintro e w2 ⟨rfl, hu, hb2⟩
         have HB2 := Lib.hid hb2
         have HU := Lib.hid hu
         simp only [RegL.cells] at hb2
         have d0 := hb2.cell 0
         have d1 := hb2.cell 1
         have d2 := hb2.cell 2
         have d3 := hb2.cell 3
         simp at d0 d1 d2 d3
         have g0 := hb2.frozen 0
         have g1 := hb2.frozen 1
         have g2 := hb2.frozen 2
         have g3 := hb2.frozen 3
         clear hu hb2)
    all_goals
      go_ret2
      exact ⟨rfl, ((HU1.out.trans HU.out).set1).set1, ((HB2.out.set_ 0 _).set_ 3 _).eq_ (by simp [opR, binO, RegL.cells, RegL.join, *])⟩
  by_cases h75 : op = 75
  · subst h75
    go_wp2_with first
      | (go_at_call 47; refine (wTruth _ _).mono ?_; rintro e w1 ⟨rfl, rfl⟩)
      | (go_at_call 24; refine (HP.out _ HS1.out).mono ?_; rintro e w2 ⟨rfl, hu, hb2⟩
         have HB2 := Lib.hid hb2
         have HU := Lib.hid hu
         simp only [RegL.cells] at hb2
         have d0 := hb2.cell 0
         have d1 := hb2.cell 1
         have d2 := hb2.cell 2
         have d3 := hb2.cell 3
         simp at d0 d1 d2 d3
         have g0 := hb2.frozen 0
         have g1 := hb2.frozen 1
         have g2 := hb2.frozen 2
         have g3 := hb2.frozen 3
         clear hu hb2)
    all_goals
      go_ret2
      exact ⟨rfl, ((HU1.out.trans HU.out).set1).set1, ((HB2.out.set_ 0 _).set_ 3 _).eq_ (by simp [opR, binO, RegL.cells, RegL.join, *])⟩
  by_cases h51 : op = 51
  · subst h51
    go_wp2_with first
      | (go_at_call 47; refine (wTruth _ _).mono ?_; rintro e w1 ⟨rfl, rfl⟩)
      | (go_at_call 24; refine (HP.out _ HS1.out).mono ?_; rintro e w2 ⟨rfl, hu, hb2⟩
         have HB2 := Lib.hid hb2
         have HU := Lib.hid hu
         simp only [RegL.cells] at hb2
         have d0 := hb2.cell 0
         have d1 := hb2.cell 1
         have d2 := hb2.cell 2
         have d3 := hb2.cell 3
         simp at d0 d1 d2 d3
         have g0 := hb2.frozen 0
         have g1 := hb2.frozen 1
         have g2 := hb2.frozen 2
         have g3 := hb2.frozen 3
         clear hu hb2)
    all_goals
      go_ret2
      exact ⟨rfl, ((HU1.out.trans HU.out).set1).set1, ((HB2.out.set_ 0 _).set_ 3 _).eq_ (by simp [opR, binO, RegL.cells, RegL.join, *])⟩
  by_cases h65 : op = 65
  · subst h65
    go_wp2_with first
      | (go_at_call 73; refine (wShl _ _ _ HB.out HA.out).mono ?_; rintro e w1 ⟨rfl, rfl⟩)
      | (go_at_call 24; refine (HP.out _ HS1.out).mono ?_; rintro e w2 ⟨rfl, hu, hb2⟩
         have HB2 := Lib.hid hb2
         have HU := Lib.hid hu
         simp only [RegL.cells] at hb2
         have d0 := hb2.cell 0
         have d1 := hb2.cell 1
         have d2 := hb2.cell 2
         have d3 := hb2.cell 3
         simp at d0 d1 d2 d3
         have g0 := hb2.frozen 0
         have g1 := hb2.frozen 1
         have g2 := hb2.frozen 2
         have g3 := hb2.frozen 3
         clear hu hb2)
    all_goals
      go_ret2
      exact ⟨rfl, ((HU1.out.trans HU.out).set1).set1, ((HB2.out.set_ 0 _).set_ 3 _).eq_ (by simp [opR, binO, RegL.cells, RegL.join, *])⟩
  by_cases h64 : op = 64
  · subst h64
    go_wp2_with first
      | (go_at_call 74; refine (wShr _ _ _ HB.out HA.out).mono ?_; rintro e w1 ⟨rfl, rfl⟩)
      | (go_at_call 24; refine (HP.out _ HS1.out).mono ?_; rintro e w2 ⟨rfl, hu, hb2⟩
         have HB2 := Lib.hid hb2
         have HU := Lib.hid hu
         simp only [RegL.cells] at hb2
         have d0 := hb2.cell 0
         have d1 := hb2.cell 1
         have d2 := hb2.cell 2
         have d3 := hb2.cell 3
         simp at d0 d1 d2 d3
         have g0 := hb2.frozen 0
         have g1 := hb2.frozen 1
         have g2 := hb2.frozen 2
         have g3 := hb2.frozen 3
         clear hu hb2)
    all_goals
      go_ret2
      exact ⟨rfl, ((HU1.out.trans HU.out).set1).set1, ((HB2.out.set_ 0 _).set_ 3 _).eq_ (by simp [opR, binO, RegL.cells, RegL.join, *])⟩
  by_cases h9 : op = 9
  · subst h9
    go_wp2_with first
      | (go_at_call 47; refine (wTruth _ _).mono ?_; rintro e w1 ⟨rfl, rfl⟩)
      | (go_at_call 24; refine (HP.out _ HS1.out).mono ?_; rintro e w2 ⟨rfl, hu, hb2⟩
         have HB2 := Lib.hid hb2
         have HU := Lib.hid hu
         simp only [RegL.cells] at hb2
         have d0 := hb2.cell 0
         have d1 := hb2.cell 1
         have d2 := hb2.cell 2
         have d3 := hb2.cell 3
         simp at d0 d1 d2 d3
         have g0 := hb2.frozen 0
         have g1 := hb2.frozen 1
         have g2 := hb2.frozen 2
         have g3 := hb2.frozen 3
         clear hu hb2)
    all_goals
      go_ret2
      exact ⟨rfl, ((HU1.out.trans HU.out).set1).set1, ((HB2.out.set_ 0 _).set_ 3 _).eq_ (by simp [opR, binO, RegL.cells, RegL.join, *])⟩
  by_cases h19 : op = 19
  · subst h19
    go_wp2_with first
      | (go_at_call 75; refine (wCsub0 _ _ _ HB.out HA.out).mono ?_; unfold rv; rintro e w1 ⟨rfl, rfl⟩)
      | (go_at_call 24; refine (HP.out _ HS1.out).mono ?_; rintro e w2 ⟨rfl, hu, hb2⟩
         have HB2 := Lib.hid hb2
         have HU := Lib.hid hu
         simp only [RegL.cells] at hb2
         have d0 := hb2.cell 0
         have d1 := hb2.cell 1
         have d2 := hb2.cell 2
         have d3 := hb2.cell 3
         simp at d0 d1 d2 d3
         have g0 := hb2.frozen 0
         have g1 := hb2.frozen 1
         have g2 := hb2.frozen 2
         have g3 := hb2.frozen 3
         clear hu hb2)
    all_goals
      go_ret2
      exact ⟨rfl, ((HU1.out.trans HU.out).set1).set1, ((HB2.out.set_ 0 _).set_ 3 _).eq_ (by simp [opR, binO, RegL.cells, RegL.join, *])⟩
  by_cases h10 : op = 10
  · subst h10
    go_wp2_with first
      | (go_at_call 47; refine (wTruth _ _).mono ?_; rintro e w1 ⟨rfl, rfl⟩)
      | (go_at_call 24; refine (HP.out _ HS1.out).mono ?_; rintro e w2 ⟨rfl, hu, hb2⟩
         have HB2 := Lib.hid hb2
         have HU := Lib.hid hu
         simp only [RegL.cells] at hb2
         have d0 := hb2.cell 0
         have d1 := hb2.cell 1
         have d2 := hb2.cell 2
         have d3 := hb2.cell 3
         simp at d0 d1 d2 d3
         have g0 := hb2.frozen 0
         have g1 := hb2.frozen 1
         have g2 := hb2.frozen 2
         have g3 := hb2.frozen 3
         clear hu hb2)
    all_goals
      go_ret2
      exact ⟨rfl, ((HU1.out.trans HU.out).set1).set1, ((HB2.out.set_ 0 _).set_ 3 _).eq_ (by simp [opR, binO, RegL.cells, RegL.join, *])⟩
  go_wp2
  go_ret2
  have hno : opR ⟨ra, rb, rc, re⟩ op = none := by simp [opR, binO, *]
  rw [hno]
  exact ⟨rfl, HU1.out, HS1.out⟩
end Go.Proofs.YtbefmlioampgcaaGreatDoor

/- The registers of the reference, walked: push, pop, join, truth, word. -/
namespace Go.Proofs.YtbefmlioampgcaaGreatDoor
open Go.RowKit
set_option linter.unusedVariables false
set_option linter.unusedSimpArgs false

theorem below_2 (w : World) (o o' : Obj) : Below w.heap.size w ((w.alloc o).alloc o') := ((Below.refl _ _).alloc (Nat.le_refl _) _).alloc (by simp) _
theorem blk_2 (w : World) (o : Obj) (t : TypeId) (cs : Array Value) : Blk ((w.alloc o).alloc (.cells cs t)) (w.heap.size + 1) t cs := by
  have := Blk.new (w.alloc o) t cs
  simpa using this
end Go.Proofs.YtbefmlioampgcaaGreatDoor

/- The operations of the reference, walked. -/
namespace Go.Proofs.YtbefmlioampgcaaGreatDoor
open Go.RowKit
set_option linter.unusedVariables false
set_option linter.unusedSimpArgs false

/-- As wp_region_quiet_tail, with calls in the head: the world under a name that the walk carries along. -/
theorem wp_region_quiet_tailF {P : Program} {id : Nat} {Q : Exit → Act → World → Prop} {a : Act} {w : World} {l : List Oper} (F : Unit → World) (hF : ∀ i, F i = w.drew) (n : Nat) (hm : P.follows .mixedOrders = true) (hB : Region.lexTailB .any l.toArray n = true)
    (h : wpQuiet P l.toArray (fun w' => ∃ i, w' = F i) (fun a' => wpList P l.toArray Q (l.drop n) a' w.drew) (l.take n) a) : (Code.region id l.toArray true).wp P Q a w := by
  have e : (fun w' => ∃ i, w' = F i) = (fun w' => w' = w.drew) := by
    funext w'
    exact propext ⟨fun ⟨i, hi⟩ => hi.trans (hF i), fun h => ⟨(), h.trans (hF ()).symm⟩⟩
  rw [e] at h
  exact wp_region_quiet_tail n hm hB h
def regs0 : Array Value := #[.int .i32 0, .int .i32 0, .int .i32 0, .bool false]
end Go.Proofs.YtbefmlioampgcaaGreatDoor
