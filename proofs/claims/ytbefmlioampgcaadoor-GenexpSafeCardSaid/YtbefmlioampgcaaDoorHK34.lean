/- Texts that belong together, joined: what each one holds is told ahead of it. -/
import Derived.Test.YtbefmlioampgcaaDoorHK3
import Derived.Laws.Rows
set_option linter.unusedVariables false
set_option linter.unusedSimpArgs false
/- The operations of expressions' code, walked in the program. -/
namespace Go.Proofs.YtbefmlioampgcaaDoor
open Go.RowKit
set_option linter.unusedVariables false
set_option linter.unusedSimpArgs false

/-- What operate leaves: the registers behind the operation, or as they were. -/
def RetOp (R : Option RegL) (r : RegL) (s : Nat) (w : World) (e : Ending) (w' : World) : Prop :=
  e = .returned (.tuple #[.pointer (some ⟨s, 0, none⟩), .bool R.isSome]) ∧ UpdB s w w' ∧ Blk w' s 68 (R.getD r).cells
theorem i32_not' (v : Int) (h : is32 v) : bits .xor .i32 (-1) v = -1 - v := by
  unfold is32 at h
  have h1 : (BitVec.ofInt 32 (-1) ^^^ BitVec.ofInt 32 v).toNat = 4294967295 - (v % ((2 ^ 32 : Nat) : Int)).toNat := by
    have e : BitVec.ofInt 32 (-1) = BitVec.allOnes 32 := by decide
    rw [e, BitVec.allOnes_xor, BitVec.toNat_not, BitVec.toNat_ofInt]
  show IntKind.i32.wrap ((BitVec.ofInt 32 (-1) ^^^ BitVec.ofInt 32 v).toNat : Nat) = -1 - v
  rw [h1, IntKind.wrap_i32]
  omega
theorem divF_eq (x y : Int) : divF x y = rv (if y = 0 ∨ (x = -2147483648 ∧ y = -1) then ((0 : Int), true) else (x.tdiv y, false)).1 (if y = 0 ∨ (x = -2147483648 ∧ y = -1) then ((0 : Int), true) else (x.tdiv y, false)).2 := by unfold divF; split <;> rfl
theorem remF_eq (x y : Int) : remF x y = rv (if y = 0 then ((0 : Int), true) else (x.tmod y, false)).1 (if y = 0 then ((0 : Int), true) else (x.tmod y, false)).2 := by unfold remF; split <;> rfl
theorem Blk.eq_ {w : World} {g : Nat} {t : TypeId} {a b : Array Value} (h : Blk w g t a) (e : a = b) : Blk w g t b := e ▸ h
set_option maxRecDepth 100000 in
set_option maxHeartbeats 8000000 in
theorem wOperate (r : RegL) (hr : r.Ok) (op : Int) (s : Nat) (w : World) (hs : Blk w s 68 r.cells) :
    Calls Tryd.prog 49 #[.pointer (some ⟨s, 0, none⟩), .int .i32 op] w (RetOp (opR r op) r s w) := by
  have HS := Lib.hid hs
  obtain ⟨ra, rb, rc, re⟩ := r
  obtain ⟨ha, hb, hc⟩ := hr
  have HA := Lib.hid ha
  have HB := Lib.hid hb
  simp only [RegL.cells] at hs ha hb hc HA HB
  have c0 := hs.cell 0
  have c1 := hs.cell 1
  have c2 := hs.cell 2
  have c3 := hs.cell 3
  simp at c0 c1 c2 c3
  have f0 := hs.frozen 0
  have f1 := hs.frozen 1
  have f2 := hs.frozen 2
  have f3 := hs.frozen 3
  have hlt := hs.lt
  have HP : Hid (∀ w', Blk w' s 68 (RegL.mk ra rb rc re).cells → Calls Tryd.prog 21 #[.pointer (some ⟨s, 0, none⟩)] w' (RetR (.tuple #[]) ⟨rb, rc, rc, re⟩ s w')) := Lib.hid fun w' h => wPop _ s w' h
  clear hs ha hb hc
  go_enter Tryd.func49, Tryd.ntmps49
  go_wp2
  go_quiet (fail)
  rename_i nq
  have HS1 : Hid (Blk (w.drewN nq) s 68 (RegL.mk ra rb rc re).cells) := Lib.hid (HS.out.drewN nq)
  have HU1 : Hid (UpdB s w (w.drewN nq)) := Lib.hid (UpdB.of_below (below_drewN (Below.refl _ _) _))
  by_cases h0 : op = 0
  · subst h0
    go_wp2
    go_ret2
    exact ⟨rfl, ((HU1.out).set1).set1, ((HS1.out.set_ 0 _).set_ 1 _).eq_ (by simp [opR, binO, RegL.cells, RegL.join, *])⟩
  by_cases h50 : op = 50
  · subst h50
    have hx : bits .xor .i32 (if IntKind.i32.signed = true then -1 else IntKind.i32.max) ra = -1 - ra := i32_not' ra HA.out
    go_wp2
    go_ret2
    exact ⟨rfl, (HU1.out).set1, (HS1.out.set_ 0 _).eq_ (by simp [opR, binO, RegL.cells, RegL.join, *])⟩
  by_cases h41 : op = 41
  · subst h41
    go_wp2_with first
      | (go_at_call 48; refine (wTruth _ _).mono ?_; rintro e w1 ⟨rfl, rfl⟩)
      | (go_at_call 46; refine (wPush _ _ _ _ HS1.out).mono ?_; rintro e w2 ⟨rfl, hu, hb2⟩
         have HB2 := Lib.hid hb2
         have HU := Lib.hid hu
         simp only [RegL.cells, RegL.push] at hb2
         have d0 := hb2.cell 0
         have d1 := hb2.cell 1
         have d2 := hb2.cell 2
         have d3 := hb2.cell 3
         simp at d0 d1 d2 d3
         have g0 := hb2.frozen 0
         have g1 := hb2.frozen 1
         have g2 := hb2.frozen 2
         have g3 := hb2.frozen 3
         clear hu hb2)
    go_ret2
    exact ⟨rfl, (HU1.out.trans HU.out).set1, (HB2.out.set_ 3 _).eq_ (by simp [opR, binO, RegL.cells, RegL.join, RegL.push])⟩
  by_cases h5 : op = 5
  · subst h5
    go_wp2_with first
      | (go_at_call 47; refine (wAdd _ _ _ HB.out HA.out).mono ?_; unfold addF rv; rintro e w1 ⟨rfl, rfl⟩)
      | (go_at_call 21; refine (HP.out _ HS1.out).mono ?_; rintro e w2 ⟨rfl, hu, hb2⟩
         have HB2 := Lib.hid hb2
         have HU := Lib.hid hu
         simp only [RegL.cells] at hb2
         have d0 := hb2.cell 0
         have d1 := hb2.cell 1
         have d2 := hb2.cell 2
         have d3 := hb2.cell 3
         simp at d0 d1 d2 d3
         have g0 := hb2.frozen 0
         have g1 := hb2.frozen 1
         have g2 := hb2.frozen 2
         have g3 := hb2.frozen 3
         clear hu hb2)
    all_goals
      go_ret2
      exact ⟨rfl, ((HU1.out.trans HU.out).set1).set1, ((HB2.out.set_ 0 _).set_ 3 _).eq_ (by simp [opR, binO, RegL.cells, RegL.join, *])⟩
  by_cases h12 : op = 12
  · subst h12
    go_wp2_with first
      | (go_at_call 81; refine (wSub _ _ _ HB.out HA.out).mono ?_; unfold subF rv; rintro e w1 ⟨rfl, rfl⟩)
      | (go_at_call 21; refine (HP.out _ HS1.out).mono ?_; rintro e w2 ⟨rfl, hu, hb2⟩
         have HB2 := Lib.hid hb2
         have HU := Lib.hid hu
         simp only [RegL.cells] at hb2
         have d0 := hb2.cell 0
         have d1 := hb2.cell 1
         have d2 := hb2.cell 2
         have d3 := hb2.cell 3
         simp at d0 d1 d2 d3
         have g0 := hb2.frozen 0
         have g1 := hb2.frozen 1
         have g2 := hb2.frozen 2
         have g3 := hb2.frozen 3
         clear hu hb2)
    all_goals
      go_ret2
      exact ⟨rfl, ((HU1.out.trans HU.out).set1).set1, ((HB2.out.set_ 0 _).set_ 3 _).eq_ (by simp [opR, binO, RegL.cells, RegL.join, *])⟩
  by_cases h83 : op = 83
  · subst h83
    go_wp2_with first
      | (go_at_call 82; refine (wMul _ _ _ HB.out HA.out).mono ?_; unfold mulF rv; rintro e w1 ⟨rfl, rfl⟩)
      | (go_at_call 21; refine (HP.out _ HS1.out).mono ?_; rintro e w2 ⟨rfl, hu, hb2⟩
         have HB2 := Lib.hid hb2
         have HU := Lib.hid hu
         simp only [RegL.cells] at hb2
         have d0 := hb2.cell 0
         have d1 := hb2.cell 1
         have d2 := hb2.cell 2
         have d3 := hb2.cell 3
         simp at d0 d1 d2 d3
         have g0 := hb2.frozen 0
         have g1 := hb2.frozen 1
         have g2 := hb2.frozen 2
         have g3 := hb2.frozen 3
         clear hu hb2)
    all_goals
      go_ret2
      exact ⟨rfl, ((HU1.out.trans HU.out).set1).set1, ((HB2.out.set_ 0 _).set_ 3 _).eq_ (by simp [opR, binO, RegL.cells, RegL.join, *])⟩
  by_cases h44 : op = 44
  · subst h44
    go_wp2_with first
      | (go_at_call 83; refine (wDiv _ _ _ HB.out HA.out).mono ?_; rw [divF_eq]; unfold rv; rintro e w1 ⟨rfl, rfl⟩)
      | (go_at_call 21; refine (HP.out _ HS1.out).mono ?_; rintro e w2 ⟨rfl, hu, hb2⟩
         have HB2 := Lib.hid hb2
         have HU := Lib.hid hu
         simp only [RegL.cells] at hb2
         have d0 := hb2.cell 0
         have d1 := hb2.cell 1
         have d2 := hb2.cell 2
         have d3 := hb2.cell 3
         simp at d0 d1 d2 d3
         have g0 := hb2.frozen 0
         have g1 := hb2.frozen 1
         have g2 := hb2.frozen 2
         have g3 := hb2.frozen 3
         clear hu hb2)
    all_goals
      go_ret2
      exact ⟨rfl, ((HU1.out.trans HU.out).set1).set1, ((HB2.out.set_ 0 _).set_ 3 _).eq_ (by simp [opR, binO, RegL.cells, RegL.join, *])⟩
  by_cases h31 : op = 31
  · subst h31
    go_wp2_with first
      | (go_at_call 84; refine (wRem _ _ _ HB.out HA.out).mono ?_; rw [remF_eq]; unfold rv; rintro e w1 ⟨rfl, rfl⟩)
      | (go_at_call 21; refine (HP.out _ HS1.out).mono ?_; rintro e w2 ⟨rfl, hu, hb2⟩
         have HB2 := Lib.hid hb2
         have HU := Lib.hid hu
         simp only [RegL.cells] at hb2
         have d0 := hb2.cell 0
         have d1 := hb2.cell 1
         have d2 := hb2.cell 2
         have d3 := hb2.cell 3
         simp at d0 d1 d2 d3
         have g0 := hb2.frozen 0
         have g1 := hb2.frozen 1
         have g2 := hb2.frozen 2
         have g3 := hb2.frozen 3
         clear hu hb2)
    all_goals
      go_ret2
      exact ⟨rfl, ((HU1.out.trans HU.out).set1).set1, ((HB2.out.set_ 0 _).set_ 3 _).eq_ (by simp [opR, binO, RegL.cells, RegL.join, *])⟩
  by_cases h82 : op = 82
  · subst h82
    go_wp2_with first
      | (go_at_call 85; refine (wSum _ _ _).mono ?_; rintro e w1 ⟨rfl, rfl⟩)
      | (go_at_call 21; refine (HP.out _ HS1.out).mono ?_; rintro e w2 ⟨rfl, hu, hb2⟩
         have HB2 := Lib.hid hb2
         have HU := Lib.hid hu
         simp only [RegL.cells] at hb2
         have d0 := hb2.cell 0
         have d1 := hb2.cell 1
         have d2 := hb2.cell 2
         have d3 := hb2.cell 3
         simp at d0 d1 d2 d3
         have g0 := hb2.frozen 0
         have g1 := hb2.frozen 1
         have g2 := hb2.frozen 2
         have g3 := hb2.frozen 3
         clear hu hb2)
    all_goals
      go_ret2
      exact ⟨rfl, ((HU1.out.trans HU.out).set1).set1, ((HB2.out.set_ 0 _).set_ 3 _).eq_ (by simp [opR, binO, RegL.cells, RegL.join, *])⟩
  by_cases h4 : op = 4
  · subst h4
    go_wp2_with first
      | (go_at_call 86; refine (wDiff _ _ _).mono ?_; rintro e w1 ⟨rfl, rfl⟩)
      | (go_at_call 21; refine (HP.out _ HS1.out).mono ?_; rintro e w2 ⟨rfl, hu, hb2⟩
         have HB2 := Lib.hid hb2
         have HU := Lib.hid hu
         simp only [RegL.cells] at hb2
         have d0 := hb2.cell 0
         have d1 := hb2.cell 1
         have d2 := hb2.cell 2
         have d3 := hb2.cell 3
         simp at d0 d1 d2 d3
         have g0 := hb2.frozen 0
         have g1 := hb2.frozen 1
         have g2 := hb2.frozen 2
         have g3 := hb2.frozen 3
         clear hu hb2)
    all_goals
      go_ret2
      exact ⟨rfl, ((HU1.out.trans HU.out).set1).set1, ((HB2.out.set_ 0 _).set_ 3 _).eq_ (by simp [opR, binO, RegL.cells, RegL.join, *])⟩
  by_cases h8 : op = 8
  · subst h8
    go_wp2_with first
      | (go_at_call 87; refine (wProd _ _ _).mono ?_; rintro e w1 ⟨rfl, rfl⟩)
      | (go_at_call 21; refine (HP.out _ HS1.out).mono ?_; rintro e w2 ⟨rfl, hu, hb2⟩
         have HB2 := Lib.hid hb2
         have HU := Lib.hid hu
         simp only [RegL.cells] at hb2
         have d0 := hb2.cell 0
         have d1 := hb2.cell 1
         have d2 := hb2.cell 2
         have d3 := hb2.cell 3
         simp at d0 d1 d2 d3
         have g0 := hb2.frozen 0
         have g1 := hb2.frozen 1
         have g2 := hb2.frozen 2
         have g3 := hb2.frozen 3
         clear hu hb2)
    all_goals
      go_ret2
      exact ⟨rfl, ((HU1.out.trans HU.out).set1).set1, ((HB2.out.set_ 0 _).set_ 3 _).eq_ (by simp [opR, binO, RegL.cells, RegL.join, *])⟩
  by_cases h70 : op = 70
  · subst h70
    go_wp2_with first
      | (go_at_call 48; refine (wTruth _ _).mono ?_; rintro e w1 ⟨rfl, rfl⟩)
      | (go_at_call 21; refine (HP.out _ HS1.out).mono ?_; rintro e w2 ⟨rfl, hu, hb2⟩
         have HB2 := Lib.hid hb2
         have HU := Lib.hid hu
         simp only [RegL.cells] at hb2
         have d0 := hb2.cell 0
         have d1 := hb2.cell 1
         have d2 := hb2.cell 2
         have d3 := hb2.cell 3
         simp at d0 d1 d2 d3
         have g0 := hb2.frozen 0
         have g1 := hb2.frozen 1
         have g2 := hb2.frozen 2
         have g3 := hb2.frozen 3
         clear hu hb2)
    all_goals
      go_ret2
      exact ⟨rfl, ((HU1.out.trans HU.out).set1).set1, ((HB2.out.set_ 0 _).set_ 3 _).eq_ (by simp [opR, binO, RegL.cells, RegL.join, *])⟩
  by_cases h75 : op = 75
  · subst h75
    go_wp2_with first
      | (go_at_call 48; refine (wTruth _ _).mono ?_; rintro e w1 ⟨rfl, rfl⟩)
      | (go_at_call 21; refine (HP.out _ HS1.out).mono ?_; rintro e w2 ⟨rfl, hu, hb2⟩
         have HB2 := Lib.hid hb2
         have HU := Lib.hid hu
         simp only [RegL.cells] at hb2
         have d0 := hb2.cell 0
         have d1 := hb2.cell 1
         have d2 := hb2.cell 2
         have d3 := hb2.cell 3
         simp at d0 d1 d2 d3
         have g0 := hb2.frozen 0
         have g1 := hb2.frozen 1
         have g2 := hb2.frozen 2
         have g3 := hb2.frozen 3
         clear hu hb2)
    all_goals
      go_ret2
      exact ⟨rfl, ((HU1.out.trans HU.out).set1).set1, ((HB2.out.set_ 0 _).set_ 3 _).eq_ (by simp [opR, binO, RegL.cells, RegL.join, *])⟩
  by_cases h51 : op = 51
  · subst h51
    go_wp2_with first
      | (go_at_call 48; refine (wTruth _ _).mono ?_; rintro e w1 ⟨rfl, rfl⟩)
      | (go_at_call 21; refine (HP.out _ HS1.out).mono ?_; rintro e w2 ⟨rfl, hu, hb2⟩
         have HB2 := Lib.hid hb2
         have HU := Lib.hid hu
         simp only [RegL.cells] at hb2
         have d0 := hb2.cell 0
         have d1 := hb2.cell 1
         have d2 := hb2.cell 2
         have d3 := hb2.cell 3
         simp at d0 d1 d2 d3
         have g0 := hb2.frozen 0
         have g1 := hb2.frozen 1
         have g2 := hb2.frozen 2
         have g3 := hb2.frozen 3
         clear hu hb2)
    all_goals
      go_ret2
      exact ⟨rfl, ((HU1.out.trans HU.out).set1).set1, ((HB2.out.set_ 0 _).set_ 3 _).eq_ (by simp [opR, binO, RegL.cells, RegL.join, *])⟩
  by_cases h65 : op = 65
  · subst h65
    go_wp2_with first
      | (go_at_call 88; refine (wShl _ _ _ HB.out HA.out).mono ?_; rintro e w1 ⟨rfl, rfl⟩)
      | (go_at_call 21; refine (HP.out _ HS1.out).mono ?_; rintro e w2 ⟨rfl, hu, hb2⟩
         have HB2 := Lib.hid hb2
         have HU := Lib.hid hu
         simp only [RegL.cells] at hb2
         have d0 := hb2.cell 0
         have d1 := hb2.cell 1
         have d2 := hb2.cell 2
         have d3 := hb2.cell 3
         simp at d0 d1 d2 d3
         have g0 := hb2.frozen 0
         have g1 := hb2.frozen 1
         have g2 := hb2.frozen 2
         have g3 := hb2.frozen 3
         clear hu hb2)
    all_goals
      go_ret2
      exact ⟨rfl, ((HU1.out.trans HU.out).set1).set1, ((HB2.out.set_ 0 _).set_ 3 _).eq_ (by simp [opR, binO, RegL.cells, RegL.join, *])⟩
  by_cases h64 : op = 64
  · subst h64
    go_wp2_with first
      | (go_at_call 89; refine (wShr _ _ _ HB.out HA.out).mono ?_; rintro e w1 ⟨rfl, rfl⟩)
      | (go_at_call 21; refine (HP.out _ HS1.out).mono ?_; rintro e w2 ⟨rfl, hu, hb2⟩
         have HB2 := Lib.hid hb2
         have HU := Lib.hid hu
         simp only [RegL.cells] at hb2
         have d0 := hb2.cell 0
         have d1 := hb2.cell 1
         have d2 := hb2.cell 2
         have d3 := hb2.cell 3
         simp at d0 d1 d2 d3
         have g0 := hb2.frozen 0
         have g1 := hb2.frozen 1
         have g2 := hb2.frozen 2
         have g3 := hb2.frozen 3
         clear hu hb2)
    all_goals
      go_ret2
      exact ⟨rfl, ((HU1.out.trans HU.out).set1).set1, ((HB2.out.set_ 0 _).set_ 3 _).eq_ (by simp [opR, binO, RegL.cells, RegL.join, *])⟩
  by_cases h9 : op = 9
  · subst h9
    go_wp2_with first
      | (go_at_call 48; refine (wTruth _ _).mono ?_; rintro e w1 ⟨rfl, rfl⟩)
      | (go_at_call 21; refine (HP.out _ HS1.out).mono ?_; rintro e w2 ⟨rfl, hu, hb2⟩
         have HB2 := Lib.hid hb2
         have HU := Lib.hid hu
         simp only [RegL.cells] at hb2
         have d0 := hb2.cell 0
         have d1 := hb2.cell 1
         have d2 := hb2.cell 2
         have d3 := hb2.cell 3
         simp at d0 d1 d2 d3
         have g0 := hb2.frozen 0
         have g1 := hb2.frozen 1
         have g2 := hb2.frozen 2
         have g3 := hb2.frozen 3
         clear hu hb2)
    all_goals
      go_ret2
      exact ⟨rfl, ((HU1.out.trans HU.out).set1).set1, ((HB2.out.set_ 0 _).set_ 3 _).eq_ (by simp [opR, binO, RegL.cells, RegL.join, *])⟩
  by_cases h19 : op = 19
  · subst h19
    go_wp2_with first
      | (go_at_call 90; refine (wCsub0 _ _ _ HB.out HA.out).mono ?_; unfold rv; rintro e w1 ⟨rfl, rfl⟩)
      | (go_at_call 21; refine (HP.out _ HS1.out).mono ?_; rintro e w2 ⟨rfl, hu, hb2⟩
         have HB2 := Lib.hid hb2
         have HU := Lib.hid hu
         simp only [RegL.cells] at hb2
         have d0 := hb2.cell 0
         have d1 := hb2.cell 1
         have d2 := hb2.cell 2
         have d3 := hb2.cell 3
         simp at d0 d1 d2 d3
         have g0 := hb2.frozen 0
         have g1 := hb2.frozen 1
         have g2 := hb2.frozen 2
         have g3 := hb2.frozen 3
         clear hu hb2)
    all_goals
      go_ret2
      exact ⟨rfl, ((HU1.out.trans HU.out).set1).set1, ((HB2.out.set_ 0 _).set_ 3 _).eq_ (by simp [opR, binO, RegL.cells, RegL.join, *])⟩
  by_cases h10 : op = 10
  · subst h10
    go_wp2_with first
      | (go_at_call 48; refine (wTruth _ _).mono ?_; rintro e w1 ⟨rfl, rfl⟩)
      | (go_at_call 21; refine (HP.out _ HS1.out).mono ?_; rintro e w2 ⟨rfl, hu, hb2⟩
         have HB2 := Lib.hid hb2
         have HU := Lib.hid hu
         simp only [RegL.cells] at hb2
         have d0 := hb2.cell 0
         have d1 := hb2.cell 1
         have d2 := hb2.cell 2
         have d3 := hb2.cell 3
         simp at d0 d1 d2 d3
         have g0 := hb2.frozen 0
         have g1 := hb2.frozen 1
         have g2 := hb2.frozen 2
         have g3 := hb2.frozen 3
         clear hu hb2)
    all_goals
      go_ret2
      exact ⟨rfl, ((HU1.out.trans HU.out).set1).set1, ((HB2.out.set_ 0 _).set_ 3 _).eq_ (by simp [opR, binO, RegL.cells, RegL.join, *])⟩
  go_wp2
  go_ret2
  have hno : opR ⟨ra, rb, rc, re⟩ op = none := by simp [opR, binO, *]
  rw [hno]
  exact ⟨rfl, HU1.out, HS1.out⟩
end Go.Proofs.YtbefmlioampgcaaDoor

/- The registers of the reference, walked: push, pop, join, truth, word. -/
namespace Go.Proofs.YtbefmlioampgcaaDoor
open Go.RowKit
set_option linter.unusedVariables false
set_option linter.unusedSimpArgs false

theorem rTruth (b : Bool) (w : World) : Calls Tryd.prog 27 #[.bool b] w (RetQ (.int .i32 (truthL b)) w) := by
  cases b
  all_goals
    go_enter Tryd.func27, Tryd.ntmps27
    go_wp2
    go_ret
    exact ⟨rfl, rfl⟩
theorem regs_size : (Tryd.prog.info? 73).map (·.size) = some 4 := by kernel_rfl
theorem regs_ret {fn : Func} {p : Tmp} (h : fn.results = #[.cell p 73]) (tmps : Array Value) (w W : World) (g : Nat) (r : RegL) (hp : tmps.getD p undef = .pointer (some ⟨g, 0, none⟩)) (hB : Blk W g 73 r.cells) (hk : Below w.heap.size w W) :
    bodyPost Tryd.prog fn (RetV (.agg r.cells) w) Exit.ret { tmps := tmps, defers := [] } W :=
  bodyPost_ret (v := .agg r.cells) (results_cell_row h _ _ g _ _ (0, 0) _ hp hB Tryd.underlying73 rfl regs_size) rfl ⟨rfl, hk⟩
theorem below_2 (w : World) (o o' : Obj) : Below w.heap.size w ((w.alloc o).alloc o') := ((Below.refl _ _).alloc (Nat.le_refl _) _).alloc (by simp) _
theorem blk_2 (w : World) (o : Obj) (t : TypeId) (cs : Array Value) : Blk ((w.alloc o).alloc (.cells cs t)) (w.heap.size + 1) t cs := by
  have := Blk.new (w.alloc o) t cs
  simpa using this
set_option maxRecDepth 100000 in
theorem rPush (r : RegL) (v : Int) (w : World) : Calls Tryd.prog 25 #[.agg r.cells, .int .i32 v] w (RetV (.agg (r.push v).cells) w) := by
  simp only [RegL.cells]
  go_enter Tryd.func25, Tryd.ntmps25
  go_wp2
  exact regs_ret rfl _ _ _ (w.heap.size + 1) (r.push v) rfl (blk_2 _ _ _ _) (below_2 _ _ _)
set_option maxRecDepth 100000 in
theorem rPop (r : RegL) (w : World) : Calls Tryd.prog 29 #[.agg r.cells] w (RetV (.agg r.pop.cells) w) := by
  simp only [RegL.cells]
  go_enter Tryd.func29, Tryd.ntmps29
  go_wp2
  exact regs_ret rfl _ _ _ (w.heap.size + 1) r.pop rfl (blk_2 _ _ _ _) (below_2 _ _ _)
set_option maxRecDepth 100000 in
theorem rJoin (r : RegL) (v : Int) (o : Bool) (w : World) : Calls Tryd.prog 60 #[.agg r.cells, .int .i32 v, .bool o] w (RetV (.agg (r.join (v, o)).cells) w) := by
  obtain ⟨ra, rb, rc, re⟩ := r
  simp only [RegL.cells]
  go_enter Tryd.func60, Tryd.ntmps60
  cases re
  all_goals
    go_wp2
    refine regs_ret rfl _ _ _ (w.heap.size + 1) (RegL.join ⟨ra, rb, rc, _⟩ (v, o)) rfl (blk_2 _ _ _ _) (below_2 _ _ _)
theorem rWordAt (a : Int) (w : World) (ha : is32 a) : Calls Tryd.prog 28 #[.int .i32 a] w (RetQ (.int .i64 (a / 4)) w) := by
  obtain ⟨a0, a1⟩ := ha
  go_enter Tryd.func28, Tryd.ntmps28
  go_wp2
  all_goals
    go_ret
    refine ⟨ri_eq ?_, rfl⟩
    rename_i hq
    have e := tmod_abs (a := a) (b := 4)
    have e2 : (4 : Int).natAbs = 4 := rfl
    rw [e2] at e
    have e3 : ∀ z : Int, -4611686018427387904 ≤ z → z ≤ 4611686018427387904 → wrap64 z = z := fun z h1 h2 => by unfold wrap64; omega
    generalize a.tmod 4 = t at *
    split at e
    all_goals
      first
        | (exfalso; omega)
        | (rw [e3 (a - _) (by omega) (by omega)]
           rw [Int.tdiv_eq_ediv_of_dvd (by omega)]
           rw [e3 _ (by omega) (by omega)]
           omega)
        | (rw [e3 (t + 4) (by omega) (by omega), e3 (a - _) (by omega) (by omega)]
           rw [Int.tdiv_eq_ediv_of_dvd (by omega)]
           rw [e3 _ (by omega) (by omega)]
           omega)
end Go.Proofs.YtbefmlioampgcaaDoor

/- The operations of the reference, walked. -/
namespace Go.Proofs.YtbefmlioampgcaaDoor
open Go.RowKit
set_option linter.unusedVariables false
set_option linter.unusedSimpArgs false

/-- As wp_region_quiet_tail, with calls in the head: the world under a name that the walk carries along. -/
theorem wp_region_quiet_tailF {P : Program} {id : Nat} {Q : Exit → Act → World → Prop} {a : Act} {w : World} {l : List Oper} (F : Unit → World) (hF : ∀ i, F i = w.drew) (n : Nat) (hm : P.follows .mixedOrders = true) (hB : Region.lexTailB .any l.toArray n = true)
    (h : wpQuiet P l.toArray (fun w' => ∃ i, w' = F i) (fun a' => wpList P l.toArray Q (l.drop n) a' w.drew) (l.take n) a) : (Code.region id l.toArray true).wp P Q a w := by
  have e : (fun w' => ∃ i, w' = F i) = (fun w' => w' = w.drew) := by
    funext w'
    exact propext ⟨fun ⟨i, hi⟩ => hi.trans (hF i), fun h => ⟨(), h.trans (hF ()).symm⟩⟩
  rw [e] at h
  exact wp_region_quiet_tail n hm hB h
def regs0 : Array Value := #[.int .i32 0, .int .i32 0, .int .i32 0, .bool false]
theorem set4 {w : World} {g : Nat} {t : TypeId} {cs : Array Value} {n : Nat} {W : World} (h : Blk W g t regs0) (hk : Below n w W) (hn : n ≤ g) (q : RegL) :
    Blk ((((W.setCell ⟨g, 0, none⟩ (.int .i32 q.a)).setCell ⟨g, 1, none⟩ (.int .i32 q.b)).setCell ⟨g, 2, none⟩ (.int .i32 q.c)).setCell ⟨g, 3, none⟩ (.bool q.e)) g t q.cells ∧
      Below n w ((((W.setCell ⟨g, 0, none⟩ (.int .i32 q.a)).setCell ⟨g, 1, none⟩ (.int .i32 q.b)).setCell ⟨g, 2, none⟩ (.int .i32 q.c)).setCell ⟨g, 3, none⟩ (.bool q.e)) :=
  ⟨((((h.set_ 0 _).set_ 1 _).set_ 2 _).set_ 3 _), (((hk.setCell hn _).setCell hn _).setCell hn _).setCell hn _⟩
set_option maxRecDepth 100000 in
set_option maxHeartbeats 8000000 in
theorem rOperate (r : RegL) (hr : r.Ok) (op : Int) (w : World) : Calls Tryd.prog 31 #[.agg r.cells, .int .i32 op] w (RetV (.agg ((opR r op).getD (r.join (0, false))).cells) w) := by
  obtain ⟨R, hR⟩ : ∃ R, (opR r op).getD (r.join (0, false)) = R := ⟨_, rfl⟩
  rw [hR]
  have HR := Lib.hid hR
  clear hR
  obtain ⟨ra, rb, rc, re⟩ := r
  obtain ⟨ha, hb, hc⟩ := hr
  have HA := Lib.hid ha
  have HB := Lib.hid hb
  simp only [RegL.cells] at ha hb hc HA HB ⊢
  obtain ⟨W0, hW0⟩ : ∃ W, (w.alloc (.cells #[.int .i32 ra, .int .i32 rb, .int .i32 rc, .bool re] 73)).alloc (.cells regs0 73) = W := ⟨_, rfl⟩
  have K0 : Hid (Below w.heap.size w W0) := Lib.hid (by rw [← hW0]; exact below_2 _ _ _)
  have bR : Blk W0 w.heap.size 73 #[.int .i32 ra, .int .i32 rb, .int .i32 rc, .bool re] := by rw [← hW0]; exact (Blk.new w _ _).alloc _
  have bD : Blk W0 (w.heap.size + 1) 73 regs0 := by rw [← hW0]; exact blk_2 _ _ _ _
  have HD := Lib.hid bD
  have c0 := bR.cell 0
  have c1 := bR.cell 1
  have c2 := bR.cell 2
  have c3 := bR.cell 3
  simp at c0 c1 c2 c3
  have f0 := bD.frozen 0
  have f1 := bD.frozen 1
  have f2 := bD.frozen 2
  have f3 := bD.frozen 3
  have hlt := bD.lt
  simp only [regs0] at hW0 bD
  have d0 := bD.cell 0
  have d1 := bD.cell 1
  have d2 := bD.cell 2
  have d3 := bD.cell 3
  simp at d0 d1 d2 d3
  clear bR bD ha hb hc
  go_enter Tryd.func31, Tryd.ntmps31
  by_cases h0 : op = 0
  · subst h0
    go_wp2
    have e : R = ⟨rb, ra, rc, re⟩ := by rw [← HR.out]; simp [opR]
    rw [e]
    obtain ⟨x1, x2⟩ := set4 (cs := regs0) HD.out K0.out (Nat.le_succ _) ⟨rb, ra, rc, re⟩
    exact regs_ret rfl _ w _ (w.heap.size + 1) ⟨rb, ra, rc, re⟩ rfl x1 x2
  by_cases h50 : op = 50
  · subst h50
    go_wp2
    have e : R = ⟨wrap32 (-1 - ra), rb, rc, re⟩ := by rw [← HR.out]; simp only [opR]; have := HA.out; unfold is32 at this; simp; unfold wrap32; omega
    rw [e]
    obtain ⟨x1, x2⟩ := set4 (cs := regs0) HD.out K0.out (Nat.le_succ _) ⟨wrap32 (-1 - ra), rb, rc, re⟩
    exact regs_ret rfl _ w _ (w.heap.size + 1) ⟨wrap32 (-1 - ra), rb, rc, re⟩ rfl x1 x2
  by_cases h41 : op = 41
  · subst h41
    go_wp2
    obtain ⟨F, hF⟩ : ∃ F : Unit → World, ∀ i, F i = W0.drew := ⟨fun _ => W0.drew, fun _ => rfl⟩
    have Fc0 : ∀ i, (F i).cell? ⟨w.heap.size, 0, none⟩ = some (.int .i32 ra) := fun i => by rw [hF]; exact c0
    have Fc1 : ∀ i, (F i).cell? ⟨w.heap.size, 1, none⟩ = some (.int .i32 rb) := fun i => by rw [hF]; exact c1
    have Fc2 : ∀ i, (F i).cell? ⟨w.heap.size, 2, none⟩ = some (.int .i32 rc) := fun i => by rw [hF]; exact c2
    have Fc3 : ∀ i, (F i).cell? ⟨w.heap.size, 3, none⟩ = some (.bool re) := fun i => by rw [hF]; exact c3
    refine wp_region_quiet_tailF F hF 11 (by kernel_rfl) (by kernel_rfl) ?_
    clear hF
    simp only [List.take_succ_cons, List.take_zero, List.drop_succ_cons, List.drop_zero]
    repeat (go_big_quiet_step (first
      | (go_at_call 27; refine (rTruth _ _).mono ?_; rintro e w1 ⟨rfl, rfl⟩; exact ⟨rfl, _, rfl⟩)))
    refine wpQuiet_nil ?_
    go_wp2_with first
      | (go_at_call 25; refine (rPush ⟨ra, rb, rc, false⟩ _ _).mono ?_; simp only [RegL.cells]; rintro e w2 ⟨rfl, hb2⟩
         have HB2 := Lib.hid hb2
         have F2 := HD.out.drew.below hb2 HD.out.lt
         have HF2 := Lib.hid F2
         have g0 := F2.frozen 0
         have g1 := F2.frozen 1
         have g2 := F2.frozen 2
         have g3 := F2.frozen 3
         simp only [regs0] at F2
         have y0 := F2.cell 0
         have y1 := F2.cell 1
         have y2 := F2.cell 2
         have y3 := F2.cell 3
         simp at y0 y1 y2 y3
         have hlt2 := F2.lt
         clear hb2 F2)
    have e : R = RegL.push ⟨ra, rb, rc, false⟩ (truthL (!re)) := by rw [← HR.out]; simp [opR, RegL.push]
    rw [e]
    obtain ⟨x1, x2⟩ := set4 (cs := regs0) HF2.out (K0.out.drew.trans (HB2.out.mono K0.out.drew.size)) (Nat.le_succ _) (RegL.push ⟨ra, rb, rc, false⟩ (truthL (!re)))
    exact regs_ret rfl _ w _ (w.heap.size + 1) _ rfl x1 x2
  by_cases h5 : op = 5
  · subst h5
    go_wp2_with first
      | (go_at_call 26; refine (rAdd _ _ _ HB.out HA.out).mono ?_; unfold addF rv; rintro e w1 ⟨rfl, rfl⟩)
      | (go_at_call 60; refine (rJoin ⟨ra, rb, rc, re⟩ _ _ _).mono ?_; simp only [RegL.cells]; rintro e w2 ⟨rfl, hb2⟩
         have HB2 := Lib.hid hb2
         have F2 := HD.out.below hb2 HD.out.lt
         have HF2 := Lib.hid F2
         have g0 := F2.frozen 0
         have g1 := F2.frozen 1
         have g2 := F2.frozen 2
         have g3 := F2.frozen 3
         simp only [regs0] at F2
         have y0 := F2.cell 0
         have y1 := F2.cell 1
         have y2 := F2.cell 2
         have y3 := F2.cell 3
         simp at y0 y1 y2 y3
         have hlt2 := F2.lt
         clear hb2 F2)
    have e : R = RegL.join ⟨ra, rb, rc, re⟩ (wrap32 (rb + ra), wrap32 (rb + ra) != rb + ra) := by rw [← HR.out]; simp [opR, binO]
    rw [e]
    obtain ⟨x1, x2⟩ := set4 (cs := regs0) HF2.out (K0.out.trans (HB2.out.mono K0.out.size)) (Nat.le_succ _) (RegL.join ⟨ra, rb, rc, re⟩ (wrap32 (rb + ra), wrap32 (rb + ra) != rb + ra))
    exact regs_ret rfl _ w _ (w.heap.size + 1) _ rfl x1 x2
  by_cases h12 : op = 12
  · subst h12
    go_wp2_with first
      | (go_at_call 53; refine (rSub _ _ _ HB.out HA.out).mono ?_; unfold subF rv; rintro e w1 ⟨rfl, rfl⟩)
      | (go_at_call 60; refine (rJoin ⟨ra, rb, rc, re⟩ _ _ _).mono ?_; simp only [RegL.cells]; rintro e w2 ⟨rfl, hb2⟩
         have HB2 := Lib.hid hb2
         have F2 := HD.out.below hb2 HD.out.lt
         have HF2 := Lib.hid F2
         have g0 := F2.frozen 0
         have g1 := F2.frozen 1
         have g2 := F2.frozen 2
         have g3 := F2.frozen 3
         simp only [regs0] at F2
         have y0 := F2.cell 0
         have y1 := F2.cell 1
         have y2 := F2.cell 2
         have y3 := F2.cell 3
         simp at y0 y1 y2 y3
         have hlt2 := F2.lt
         clear hb2 F2)
    have e : R = RegL.join ⟨ra, rb, rc, re⟩ (wrap32 (rb - ra), wrap32 (rb - ra) != rb - ra) := by rw [← HR.out]; simp [opR, binO]
    rw [e]
    obtain ⟨x1, x2⟩ := set4 (cs := regs0) HF2.out (K0.out.trans (HB2.out.mono K0.out.size)) (Nat.le_succ _) (RegL.join ⟨ra, rb, rc, re⟩ (wrap32 (rb - ra), wrap32 (rb - ra) != rb - ra))
    exact regs_ret rfl _ w _ (w.heap.size + 1) _ rfl x1 x2
  by_cases h83 : op = 83
  · subst h83
    go_wp2_with first
      | (go_at_call 54; refine (rMul _ _ _ HB.out HA.out).mono ?_; unfold mulF rv; rintro e w1 ⟨rfl, rfl⟩)
      | (go_at_call 60; refine (rJoin ⟨ra, rb, rc, re⟩ _ _ _).mono ?_; simp only [RegL.cells]; rintro e w2 ⟨rfl, hb2⟩
         have HB2 := Lib.hid hb2
         have F2 := HD.out.below hb2 HD.out.lt
         have HF2 := Lib.hid F2
         have g0 := F2.frozen 0
         have g1 := F2.frozen 1
         have g2 := F2.frozen 2
         have g3 := F2.frozen 3
         simp only [regs0] at F2
         have y0 := F2.cell 0
         have y1 := F2.cell 1
         have y2 := F2.cell 2
         have y3 := F2.cell 3
         simp at y0 y1 y2 y3
         have hlt2 := F2.lt
         clear hb2 F2)
    have e : R = RegL.join ⟨ra, rb, rc, re⟩ (wrap32 (rb * ra), wrap32 (rb * ra) != rb * ra) := by rw [← HR.out]; simp [opR, binO]
    rw [e]
    obtain ⟨x1, x2⟩ := set4 (cs := regs0) HF2.out (K0.out.trans (HB2.out.mono K0.out.size)) (Nat.le_succ _) (RegL.join ⟨ra, rb, rc, re⟩ (wrap32 (rb * ra), wrap32 (rb * ra) != rb * ra))
    exact regs_ret rfl _ w _ (w.heap.size + 1) _ rfl x1 x2
  by_cases h44 : op = 44
  · subst h44
    obtain ⟨dv, hdv⟩ : ∃ d, (if ra = 0 ∨ (rb = -2147483648 ∧ ra = -1) then ((0 : Int), true) else (rb.tdiv ra, false)) = d := ⟨_, rfl⟩
    have HDV : Hid (∀ w', Calls Tryd.prog 55 #[.int .i32 rb, .int .i32 ra] w' (RetQ (.tuple #[.int .i32 dv.1, .bool dv.2]) w')) := Lib.hid fun w' => by
      have := rDiv _ _ w' HB.out HA.out
      rw [divF_eq, hdv] at this
      exact this
    have HDQ := Lib.hid hdv
    clear hdv
    go_wp2_with first
      | (go_at_call 55; refine (HDV.out _).mono ?_; rintro e w1 ⟨rfl, rfl⟩)
      | (go_at_call 60; refine (rJoin ⟨ra, rb, rc, re⟩ _ _ _).mono ?_; simp only [RegL.cells]; rintro e w2 ⟨rfl, hb2⟩
         have HB2 := Lib.hid hb2
         have F2 := HD.out.below hb2 HD.out.lt
         have HF2 := Lib.hid F2
         have g0 := F2.frozen 0
         have g1 := F2.frozen 1
         have g2 := F2.frozen 2
         have g3 := F2.frozen 3
         simp only [regs0] at F2
         have y0 := F2.cell 0
         have y1 := F2.cell 1
         have y2 := F2.cell 2
         have y3 := F2.cell 3
         simp at y0 y1 y2 y3
         have hlt2 := F2.lt
         clear hb2 F2)
    have e : R = RegL.join ⟨ra, rb, rc, re⟩ (dv.1, dv.2) := by rw [← HR.out]; simp [opR, binO, HDQ.out]
    rw [e]
    obtain ⟨x1, x2⟩ := set4 (cs := regs0) HF2.out (K0.out.trans (HB2.out.mono K0.out.size)) (Nat.le_succ _) (RegL.join ⟨ra, rb, rc, re⟩ (dv.1, dv.2))
    exact regs_ret rfl _ w _ (w.heap.size + 1) _ rfl x1 x2
  by_cases h31 : op = 31
  · subst h31
    obtain ⟨dv, hdv⟩ : ∃ d, (if ra = 0 then ((0 : Int), true) else (rb.tmod ra, false)) = d := ⟨_, rfl⟩
    have HDV : Hid (∀ w', Calls Tryd.prog 56 #[.int .i32 rb, .int .i32 ra] w' (RetQ (.tuple #[.int .i32 dv.1, .bool dv.2]) w')) := Lib.hid fun w' => by
      have := rRem _ _ w' HB.out HA.out
      rw [remF_eq, hdv] at this
      exact this
    have HDQ := Lib.hid hdv
    clear hdv
    go_wp2_with first
      | (go_at_call 56; refine (HDV.out _).mono ?_; rintro e w1 ⟨rfl, rfl⟩)
      | (go_at_call 60; refine (rJoin ⟨ra, rb, rc, re⟩ _ _ _).mono ?_; simp only [RegL.cells]; rintro e w2 ⟨rfl, hb2⟩
         have HB2 := Lib.hid hb2
         have F2 := HD.out.below hb2 HD.out.lt
         have HF2 := Lib.hid F2
         have g0 := F2.frozen 0
         have g1 := F2.frozen 1
         have g2 := F2.frozen 2
         have g3 := F2.frozen 3
         simp only [regs0] at F2
         have y0 := F2.cell 0
         have y1 := F2.cell 1
         have y2 := F2.cell 2
         have y3 := F2.cell 3
         simp at y0 y1 y2 y3
         have hlt2 := F2.lt
         clear hb2 F2)
    have e : R = RegL.join ⟨ra, rb, rc, re⟩ (dv.1, dv.2) := by rw [← HR.out]; simp [opR, binO, HDQ.out]
    rw [e]
    obtain ⟨x1, x2⟩ := set4 (cs := regs0) HF2.out (K0.out.trans (HB2.out.mono K0.out.size)) (Nat.le_succ _) (RegL.join ⟨ra, rb, rc, re⟩ (dv.1, dv.2))
    exact regs_ret rfl _ w _ (w.heap.size + 1) _ rfl x1 x2
  by_cases h82 : op = 82
  · subst h82
    go_wp2_with first
      | (go_at_call 26; refine (rAdd _ _ _ HB.out HA.out).mono ?_; unfold addF rv; rintro e w1 ⟨rfl, rfl⟩)
      | (go_at_call 60; refine (rJoin ⟨ra, rb, rc, re⟩ _ _ _).mono ?_; simp only [RegL.cells]; rintro e w2 ⟨rfl, hb2⟩
         have HB2 := Lib.hid hb2
         have F2 := HD.out.below hb2 HD.out.lt
         have HF2 := Lib.hid F2
         have g0 := F2.frozen 0
         have g1 := F2.frozen 1
         have g2 := F2.frozen 2
         have g3 := F2.frozen 3
         simp only [regs0] at F2
         have y0 := F2.cell 0
         have y1 := F2.cell 1
         have y2 := F2.cell 2
         have y3 := F2.cell 3
         simp at y0 y1 y2 y3
         have hlt2 := F2.lt
         clear hb2 F2)
    have e : R = RegL.join ⟨ra, rb, rc, re⟩ (wrap32 (rb + ra), false) := by rw [← HR.out]; simp [opR, binO]
    rw [e]
    obtain ⟨x1, x2⟩ := set4 (cs := regs0) HF2.out (K0.out.trans (HB2.out.mono K0.out.size)) (Nat.le_succ _) (RegL.join ⟨ra, rb, rc, re⟩ (wrap32 (rb + ra), false))
    exact regs_ret rfl _ w _ (w.heap.size + 1) _ rfl x1 x2
  by_cases h4 : op = 4
  · subst h4
    go_wp2_with first
      | (go_at_call 53; refine (rSub _ _ _ HB.out HA.out).mono ?_; unfold subF rv; rintro e w1 ⟨rfl, rfl⟩)
      | (go_at_call 60; refine (rJoin ⟨ra, rb, rc, re⟩ _ _ _).mono ?_; simp only [RegL.cells]; rintro e w2 ⟨rfl, hb2⟩
         have HB2 := Lib.hid hb2
         have F2 := HD.out.below hb2 HD.out.lt
         have HF2 := Lib.hid F2
         have g0 := F2.frozen 0
         have g1 := F2.frozen 1
         have g2 := F2.frozen 2
         have g3 := F2.frozen 3
         simp only [regs0] at F2
         have y0 := F2.cell 0
         have y1 := F2.cell 1
         have y2 := F2.cell 2
         have y3 := F2.cell 3
         simp at y0 y1 y2 y3
         have hlt2 := F2.lt
         clear hb2 F2)
    have e : R = RegL.join ⟨ra, rb, rc, re⟩ (wrap32 (rb - ra), false) := by rw [← HR.out]; simp [opR, binO]
    rw [e]
    obtain ⟨x1, x2⟩ := set4 (cs := regs0) HF2.out (K0.out.trans (HB2.out.mono K0.out.size)) (Nat.le_succ _) (RegL.join ⟨ra, rb, rc, re⟩ (wrap32 (rb - ra), false))
    exact regs_ret rfl _ w _ (w.heap.size + 1) _ rfl x1 x2
  by_cases h8 : op = 8
  · subst h8
    go_wp2_with first
      | (go_at_call 54; refine (rMul _ _ _ HB.out HA.out).mono ?_; unfold mulF rv; rintro e w1 ⟨rfl, rfl⟩)
      | (go_at_call 60; refine (rJoin ⟨ra, rb, rc, re⟩ _ _ _).mono ?_; simp only [RegL.cells]; rintro e w2 ⟨rfl, hb2⟩
         have HB2 := Lib.hid hb2
         have F2 := HD.out.below hb2 HD.out.lt
         have HF2 := Lib.hid F2
         have g0 := F2.frozen 0
         have g1 := F2.frozen 1
         have g2 := F2.frozen 2
         have g3 := F2.frozen 3
         simp only [regs0] at F2
         have y0 := F2.cell 0
         have y1 := F2.cell 1
         have y2 := F2.cell 2
         have y3 := F2.cell 3
         simp at y0 y1 y2 y3
         have hlt2 := F2.lt
         clear hb2 F2)
    have e : R = RegL.join ⟨ra, rb, rc, re⟩ (wrap32 (rb * ra), false) := by rw [← HR.out]; simp [opR, binO]
    rw [e]
    obtain ⟨x1, x2⟩ := set4 (cs := regs0) HF2.out (K0.out.trans (HB2.out.mono K0.out.size)) (Nat.le_succ _) (RegL.join ⟨ra, rb, rc, re⟩ (wrap32 (rb * ra), false))
    exact regs_ret rfl _ w _ (w.heap.size + 1) _ rfl x1 x2
  by_cases h70 : op = 70
  · subst h70
    go_wp2_with first
      | (go_at_call 27; refine (rTruth _ _).mono ?_; rintro e w1 ⟨rfl, rfl⟩)
      | (go_at_call 60; refine (rJoin ⟨ra, rb, rc, re⟩ _ _ _).mono ?_; simp only [RegL.cells]; rintro e w2 ⟨rfl, hb2⟩
         have HB2 := Lib.hid hb2
         have F2 := HD.out.below hb2 HD.out.lt
         have HF2 := Lib.hid F2
         have g0 := F2.frozen 0
         have g1 := F2.frozen 1
         have g2 := F2.frozen 2
         have g3 := F2.frozen 3
         simp only [regs0] at F2
         have y0 := F2.cell 0
         have y1 := F2.cell 1
         have y2 := F2.cell 2
         have y3 := F2.cell 3
         simp at y0 y1 y2 y3
         have hlt2 := F2.lt
         clear hb2 F2)
    have e : R = RegL.join ⟨ra, rb, rc, re⟩ (bits .and .i32 rb ra, false) := by rw [← HR.out]; simp [opR, binO]
    rw [e]
    obtain ⟨x1, x2⟩ := set4 (cs := regs0) HF2.out (K0.out.trans (HB2.out.mono K0.out.size)) (Nat.le_succ _) (RegL.join ⟨ra, rb, rc, re⟩ (bits .and .i32 rb ra, false))
    exact regs_ret rfl _ w _ (w.heap.size + 1) _ rfl x1 x2
  by_cases h75 : op = 75
  · subst h75
    go_wp2_with first
      | (go_at_call 27; refine (rTruth _ _).mono ?_; rintro e w1 ⟨rfl, rfl⟩)
      | (go_at_call 60; refine (rJoin ⟨ra, rb, rc, re⟩ _ _ _).mono ?_; simp only [RegL.cells]; rintro e w2 ⟨rfl, hb2⟩
         have HB2 := Lib.hid hb2
         have F2 := HD.out.below hb2 HD.out.lt
         have HF2 := Lib.hid F2
         have g0 := F2.frozen 0
         have g1 := F2.frozen 1
         have g2 := F2.frozen 2
         have g3 := F2.frozen 3
         simp only [regs0] at F2
         have y0 := F2.cell 0
         have y1 := F2.cell 1
         have y2 := F2.cell 2
         have y3 := F2.cell 3
         simp at y0 y1 y2 y3
         have hlt2 := F2.lt
         clear hb2 F2)
    have e : R = RegL.join ⟨ra, rb, rc, re⟩ (bits .or .i32 rb ra, false) := by rw [← HR.out]; simp [opR, binO]
    rw [e]
    obtain ⟨x1, x2⟩ := set4 (cs := regs0) HF2.out (K0.out.trans (HB2.out.mono K0.out.size)) (Nat.le_succ _) (RegL.join ⟨ra, rb, rc, re⟩ (bits .or .i32 rb ra, false))
    exact regs_ret rfl _ w _ (w.heap.size + 1) _ rfl x1 x2
  by_cases h51 : op = 51
  · subst h51
    go_wp2_with first
      | (go_at_call 27; refine (rTruth _ _).mono ?_; rintro e w1 ⟨rfl, rfl⟩)
      | (go_at_call 60; refine (rJoin ⟨ra, rb, rc, re⟩ _ _ _).mono ?_; simp only [RegL.cells]; rintro e w2 ⟨rfl, hb2⟩
         have HB2 := Lib.hid hb2
         have F2 := HD.out.below hb2 HD.out.lt
         have HF2 := Lib.hid F2
         have g0 := F2.frozen 0
         have g1 := F2.frozen 1
         have g2 := F2.frozen 2
         have g3 := F2.frozen 3
         simp only [regs0] at F2
         have y0 := F2.cell 0
         have y1 := F2.cell 1
         have y2 := F2.cell 2
         have y3 := F2.cell 3
         simp at y0 y1 y2 y3
         have hlt2 := F2.lt
         clear hb2 F2)
    have e : R = RegL.join ⟨ra, rb, rc, re⟩ (bits .xor .i32 rb ra, false) := by rw [← HR.out]; simp [opR, binO]
    rw [e]
    obtain ⟨x1, x2⟩ := set4 (cs := regs0) HF2.out (K0.out.trans (HB2.out.mono K0.out.size)) (Nat.le_succ _) (RegL.join ⟨ra, rb, rc, re⟩ (bits .xor .i32 rb ra, false))
    exact regs_ret rfl _ w _ (w.heap.size + 1) _ rfl x1 x2
  by_cases h65 : op = 65
  · subst h65
    go_wp2_with first
      | (go_at_call 57; refine (rShl _ _ _ HB.out HA.out).mono ?_; rintro e w1 ⟨rfl, rfl⟩)
      | (go_at_call 60; refine (rJoin ⟨ra, rb, rc, re⟩ _ _ _).mono ?_; simp only [RegL.cells]; rintro e w2 ⟨rfl, hb2⟩
         have HB2 := Lib.hid hb2
         have F2 := HD.out.below hb2 HD.out.lt
         have HF2 := Lib.hid F2
         have g0 := F2.frozen 0
         have g1 := F2.frozen 1
         have g2 := F2.frozen 2
         have g3 := F2.frozen 3
         simp only [regs0] at F2
         have y0 := F2.cell 0
         have y1 := F2.cell 1
         have y2 := F2.cell 2
         have y3 := F2.cell 3
         simp at y0 y1 y2 y3
         have hlt2 := F2.lt
         clear hb2 F2)
    have e : R = RegL.join ⟨ra, rb, rc, re⟩ (shlF rb ra, false) := by rw [← HR.out]; simp [opR, binO]
    rw [e]
    obtain ⟨x1, x2⟩ := set4 (cs := regs0) HF2.out (K0.out.trans (HB2.out.mono K0.out.size)) (Nat.le_succ _) (RegL.join ⟨ra, rb, rc, re⟩ (shlF rb ra, false))
    exact regs_ret rfl _ w _ (w.heap.size + 1) _ rfl x1 x2
  by_cases h64 : op = 64
  · subst h64
    go_wp2_with first
      | (go_at_call 58; refine (rShr _ _ _ HB.out HA.out).mono ?_; rintro e w1 ⟨rfl, rfl⟩)
      | (go_at_call 60; refine (rJoin ⟨ra, rb, rc, re⟩ _ _ _).mono ?_; simp only [RegL.cells]; rintro e w2 ⟨rfl, hb2⟩
         have HB2 := Lib.hid hb2
         have F2 := HD.out.below hb2 HD.out.lt
         have HF2 := Lib.hid F2
         have g0 := F2.frozen 0
         have g1 := F2.frozen 1
         have g2 := F2.frozen 2
         have g3 := F2.frozen 3
         simp only [regs0] at F2
         have y0 := F2.cell 0
         have y1 := F2.cell 1
         have y2 := F2.cell 2
         have y3 := F2.cell 3
         simp at y0 y1 y2 y3
         have hlt2 := F2.lt
         clear hb2 F2)
    have e : R = RegL.join ⟨ra, rb, rc, re⟩ (shrF rb ra, false) := by rw [← HR.out]; simp [opR, binO]
    rw [e]
    obtain ⟨x1, x2⟩ := set4 (cs := regs0) HF2.out (K0.out.trans (HB2.out.mono K0.out.size)) (Nat.le_succ _) (RegL.join ⟨ra, rb, rc, re⟩ (shrF rb ra, false))
    exact regs_ret rfl _ w _ (w.heap.size + 1) _ rfl x1 x2
  by_cases h9 : op = 9
  · subst h9
    go_wp2_with first
      | (go_at_call 27; refine (rTruth _ _).mono ?_; rintro e w1 ⟨rfl, rfl⟩)
      | (go_at_call 60; refine (rJoin ⟨ra, rb, rc, re⟩ _ _ _).mono ?_; simp only [RegL.cells]; rintro e w2 ⟨rfl, hb2⟩
         have HB2 := Lib.hid hb2
         have F2 := HD.out.below hb2 HD.out.lt
         have HF2 := Lib.hid F2
         have g0 := F2.frozen 0
         have g1 := F2.frozen 1
         have g2 := F2.frozen 2
         have g3 := F2.frozen 3
         simp only [regs0] at F2
         have y0 := F2.cell 0
         have y1 := F2.cell 1
         have y2 := F2.cell 2
         have y3 := F2.cell 3
         simp at y0 y1 y2 y3
         have hlt2 := F2.lt
         clear hb2 F2)
    have e : R = RegL.join ⟨ra, rb, rc, re⟩ (truthL (decide (ra < rb)), false) := by rw [← HR.out]; simp [opR, binO]
    rw [e]
    obtain ⟨x1, x2⟩ := set4 (cs := regs0) HF2.out (K0.out.trans (HB2.out.mono K0.out.size)) (Nat.le_succ _) (RegL.join ⟨ra, rb, rc, re⟩ (truthL (decide (ra < rb)), false))
    exact regs_ret rfl _ w _ (w.heap.size + 1) _ rfl x1 x2
  by_cases h19 : op = 19
  · subst h19
    go_wp2_with first
      | (go_at_call 59; refine (rCsub0 _ _ _ HB.out HA.out).mono ?_; unfold rv; rintro e w1 ⟨rfl, rfl⟩)
      | (go_at_call 60; refine (rJoin ⟨ra, rb, rc, re⟩ _ _ _).mono ?_; simp only [RegL.cells]; rintro e w2 ⟨rfl, hb2⟩
         have HB2 := Lib.hid hb2
         have F2 := HD.out.below hb2 HD.out.lt
         have HF2 := Lib.hid F2
         have g0 := F2.frozen 0
         have g1 := F2.frozen 1
         have g2 := F2.frozen 2
         have g3 := F2.frozen 3
         simp only [regs0] at F2
         have y0 := F2.cell 0
         have y1 := F2.cell 1
         have y2 := F2.cell 2
         have y3 := F2.cell 3
         simp at y0 y1 y2 y3
         have hlt2 := F2.lt
         clear hb2 F2)
    have e : R = RegL.join ⟨ra, rb, rc, re⟩ (rb, decide (u32 ra ≤ u32 rb)) := by rw [← HR.out]; simp [opR, binO]
    rw [e]
    obtain ⟨x1, x2⟩ := set4 (cs := regs0) HF2.out (K0.out.trans (HB2.out.mono K0.out.size)) (Nat.le_succ _) (RegL.join ⟨ra, rb, rc, re⟩ (rb, decide (u32 ra ≤ u32 rb)))
    exact regs_ret rfl _ w _ (w.heap.size + 1) _ rfl x1 x2
  by_cases h10 : op = 10
  · subst h10
    go_wp2_with first
      | (go_at_call 27; refine (rTruth _ _).mono ?_; rintro e w1 ⟨rfl, rfl⟩)
      | (go_at_call 60; refine (rJoin ⟨ra, rb, rc, re⟩ _ _ _).mono ?_; simp only [RegL.cells]; rintro e w2 ⟨rfl, hb2⟩
         have HB2 := Lib.hid hb2
         have F2 := HD.out.below hb2 HD.out.lt
         have HF2 := Lib.hid F2
         have g0 := F2.frozen 0
         have g1 := F2.frozen 1
         have g2 := F2.frozen 2
         have g3 := F2.frozen 3
         simp only [regs0] at F2
         have y0 := F2.cell 0
         have y1 := F2.cell 1
         have y2 := F2.cell 2
         have y3 := F2.cell 3
         simp at y0 y1 y2 y3
         have hlt2 := F2.lt
         clear hb2 F2)
    have e : R = RegL.join ⟨ra, rb, rc, re⟩ (wrap32 (ra + wrap32 (4 * rb)), false) := by rw [← HR.out]; simp [opR, binO]
    rw [e]
    obtain ⟨x1, x2⟩ := set4 (cs := regs0) HF2.out (K0.out.trans (HB2.out.mono K0.out.size)) (Nat.le_succ _) (RegL.join ⟨ra, rb, rc, re⟩ (wrap32 (ra + wrap32 (4 * rb)), false))
    exact regs_ret rfl _ w _ (w.heap.size + 1) _ rfl x1 x2
  go_wp2_with first
      | (go_at_call 60; refine (rJoin ⟨ra, rb, rc, re⟩ _ _ _).mono ?_; simp only [RegL.cells]; rintro e w2 ⟨rfl, hb2⟩
         have HB2 := Lib.hid hb2
         have F2 := HD.out.below hb2 HD.out.lt
         have HF2 := Lib.hid F2
         have g0 := F2.frozen 0
         have g1 := F2.frozen 1
         have g2 := F2.frozen 2
         have g3 := F2.frozen 3
         simp only [regs0] at F2
         have y0 := F2.cell 0
         have y1 := F2.cell 1
         have y2 := F2.cell 2
         have y3 := F2.cell 3
         simp at y0 y1 y2 y3
         have hlt2 := F2.lt
         clear hb2 F2)
  have e : R = RegL.join ⟨ra, rb, rc, re⟩ (0, false) := by rw [← HR.out]; simp [opR, binO, *]
  rw [e]
  obtain ⟨x1, x2⟩ := set4 (cs := regs0) HF2.out (K0.out.trans (HB2.out.mono K0.out.size)) (Nat.le_succ _) (RegL.join ⟨ra, rb, rc, re⟩ (0, false))
  exact regs_ret rfl _ w _ (w.heap.size + 1) _ rfl x1 x2
end Go.Proofs.YtbefmlioampgcaaDoor
