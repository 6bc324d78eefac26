/- Texts that belong together, joined: what each one holds is told ahead of it. -/
import Derived.Test.YtbefmlioampgcaaGreatDoorHK34
import Derived.Test.YtbefmlioampgcaaGreatDoorHA4
import Derived.Test.YtbefmlioampgcaaGreatDoorHK3
import Derived.Test.YtbefmlioampgcaaGreatDoorHK8
set_option linter.unusedVariables false
set_option linter.unusedSimpArgs false
/- runs, plain and move: the lines that neither jump nor fail, walked in the program. -/
namespace Go.Proofs.YtbefmlioampgcaaGreatDoor
open Go.RowKit
set_option linter.unusedVariables false
set_option linter.unusedSimpArgs false

/-- Which functions are run. -/
def fnB (x : LineL) : Bool := x.fn == 4 || x.fn == 8 || x.fn == 12 || x.fn == 1 || x.fn == 7 || x.fn == 13 || x.fn == 3 || x.fn == 10 || (x.fn == 15 && knownB x.arg)
set_option maxRecDepth 100000 in
set_option maxHeartbeats 4000000 in
theorem wRuns (x : LineL) (w : World) : Calls Tryz.prog 44 #[.agg (lineC x)] w (RetV (.bool (fnB x)) w) := by
  obtain ⟨F, hF⟩ : ∃ F : Int, (x.fn : Int) = F := ⟨_, rfl⟩
  obtain ⟨W0, hW0⟩ : ∃ W, w.alloc (.cells (lineC x) 62) = W := ⟨_, rfl⟩
  have K0 : Hid (Below w.heap.size w W0) := Lib.hid (by rw [← hW0]; exact (Below.refl _ _).alloc (Nat.le_refl _) _)
  have b0 : Blk W0 w.heap.size 62 (lineC x) := by rw [← hW0]; exact Blk.new _ _ _
  have HO := Lib.hid (wOperate ⟨0, 0, 0, false⟩ ⟨is32_0, is32_0, is32_0⟩ x.arg W0.heap.size _ (Blk.new W0 _ _))
  simp only [RegL.cells] at HO
  have HK : Hid (knownB x.arg = (opR ⟨0, 0, 0, false⟩ x.arg).isSome) := Lib.hid rfl
  have HFB : Hid (fnB x = (x.fn == 4 || x.fn == 8 || x.fn == 12 || x.fn == 1 || x.fn == 7 || x.fn == 13 || x.fn == 3 || x.fn == 10 || (x.fn == 15 && knownB x.arg))) := Lib.hid rfl
  simp only [lineC, hF] at hW0 b0 ⊢
  have c0 := b0.cell 0
  have c1 := b0.cell 1
  have c2 := b0.cell 2
  have c3 := b0.cell 3
  have c4 := b0.cell 4
  simp at c0 c1 c2 c3 c4
  have hlt := b0.lt
  generalize fnB x = ans at *
  generalize opR ⟨0, 0, 0, false⟩ x.arg = R at *
  generalize strB x.label = s1 at *
  generalize strB x.target = s2 at *
  generalize strB x.frm = s3 at *
  generalize x.arg = arg at *
  generalize hfn : x.fn = fn at *
  have HF := Lib.hid hF
  clear b0 hfn hF
  go_enter Tryz.func44, Tryz.ntmps44
  by_cases h4 : F = 4
  · subst h4
    go_wp2
    go_ret
    exact ⟨by rw [HFB.out, show fn = 4 by have := HF.out; omega]; rfl, K0.out⟩
  by_cases h8 : F = 8
  · subst h8
    go_wp2
    go_ret
    exact ⟨by rw [HFB.out, show fn = 8 by have := HF.out; omega]; rfl, K0.out⟩
  by_cases h12 : F = 12
  · subst h12
    go_wp2
    go_ret
    exact ⟨by rw [HFB.out, show fn = 12 by have := HF.out; omega]; rfl, K0.out⟩
  by_cases h1 : F = 1
  · subst h1
    go_wp2
    go_ret
    exact ⟨by rw [HFB.out, show fn = 1 by have := HF.out; omega]; rfl, K0.out⟩
  by_cases h7 : F = 7
  · subst h7
    go_wp2
    go_ret
    exact ⟨by rw [HFB.out, show fn = 7 by have := HF.out; omega]; rfl, K0.out⟩
  by_cases h13 : F = 13
  · subst h13
    go_wp2
    go_ret
    exact ⟨by rw [HFB.out, show fn = 13 by have := HF.out; omega]; rfl, K0.out⟩
  by_cases h3 : F = 3
  · subst h3
    go_wp2
    go_ret
    exact ⟨by rw [HFB.out, show fn = 3 by have := HF.out; omega]; rfl, K0.out⟩
  by_cases h10 : F = 10
  · subst h10
    go_wp2
    go_ret
    exact ⟨by rw [HFB.out, show fn = 10 by have := HF.out; omega]; rfl, K0.out⟩
  by_cases h15 : F = 15
  · subst h15
    go_wp2_with first
      | (go_at_call 48; (with_reducible refine HO.out.mono ?_); rintro e w2 ⟨rfl, hu, hb2⟩
         have HU := Lib.hid hu
         clear hu hb2)
    go_ret
    have a1 := ((Below.refl W0.heap.size W0).alloc (Nat.le_refl _) (.cells #[.int .i32 0, .int .i32 0, .int .i32 0, .bool false] 79)).trans (HU.out.below (by simp))
    exact ⟨by rw [HFB.out, HK.out, show fn = 15 by have := HF.out; omega]; rfl, K0.out.trans (a1.mono K0.out.size)⟩
  have e1 : ans = false := by
    have := HF.out
    rw [HFB.out]
    simp
    omega
  go_wp2
  go_ret
  exact ⟨by rw [e1]; rfl, K0.out⟩
theorem UpdB.drewN {g : Nat} {w w' : World} (h : UpdB g w w') (n : Nat) : UpdB g w (w'.drewN n) := ⟨h.os, h.tape, h.output, h.size, h.block⟩
set_option maxRecDepth 100000 in
set_option maxHeartbeats 4000000 in
theorem wPlain (x : LineL) (hx : is32 x.arg) (r : RegL) (hr : r.Ok) (s : Nat) (w : World) (hs : Blk w s 79 r.cells) :
    Calls Tryz.prog 26 #[.pointer (some ⟨s, 0, none⟩), .agg (lineC x)] w (RetR (.tuple #[]) (plainO x r) s w) := by
  obtain ⟨F, hF⟩ : ∃ F : Int, (x.fn : Int) = F := ⟨_, rfl⟩
  obtain ⟨W0, hW0⟩ : ∃ W, w.alloc (.cells (lineC x) 62) = W := ⟨_, rfl⟩
  have b0 : Blk W0 w.heap.size 62 (lineC x) := by rw [← hW0]; exact Blk.new _ _ _
  have hs0 : Blk W0 s 79 r.cells := by rw [← hW0]; exact hs.alloc _
  have HU0 : Hid (UpdB s w W0) := Lib.hid (by rw [← hW0]; exact UpdB.alloc _ _)
  have HS := Lib.hid hs0
  have HX := Lib.hid hx
  have HR := Lib.hid hr
  have HO := Lib.hid (wOperate r hr x.arg s _ hs0)
  have HP := Lib.hid (fun v => wPush r v s _ hs0)
  have HQ : Hid (plainO x r = if x.fn = 4 then r.push x.arg
    else if x.fn = 1 then r.push (wrap32 (4 * x.arg))
    else if x.fn = 8 then ⟨wrap32 (r.a + x.arg), r.b, r.c, r.e || (wrap32 (r.a + x.arg) != r.a + x.arg)⟩
    else if x.fn = 12 then ⟨truthL (r.a == x.arg), r.b, r.c, r.e⟩
    else (opR r x.arg).getD r) := Lib.hid rfl
  have HA := Lib.hid (fun w => wAdd r.a x.arg w hr.1 hx)
  simp only [lineC, hF] at hW0 b0 ⊢
  simp only [RegL.cells] at hs0
  have c0 := b0.cell 0
  have c1 := b0.cell 1
  have c2 := b0.cell 2
  have c3 := b0.cell 3
  have c4 := b0.cell 4
  simp at c0 c1 c2 c3 c4
  have d0 := hs0.cell 0
  have d1 := hs0.cell 1
  have d2 := hs0.cell 2
  have d3 := hs0.cell 3
  simp at d0 d1 d2 d3
  have g0 := hs0.frozen 0
  have g1 := hs0.frozen 1
  have g2 := hs0.frozen 2
  have g3 := hs0.frozen 3
  have hlt := b0.lt
  have hls := hs0.lt
  have hne : ¬ s = w.heap.size := by have := hs.lt; omega
  generalize hq : plainO x r = q at *
  generalize strB x.label = s1 at *
  generalize strB x.target = s2 at *
  generalize strB x.frm = s3 at *
  generalize x.arg = arg at *
  generalize hfn : x.fn = fn at *
  obtain ⟨ra, rb, rc, re⟩ := r
  simp only at *
  have HF := Lib.hid hF
  clear b0 hfn hF hq hs hs0 hr hx
  go_enter Tryz.func26, Tryz.ntmps26
  by_cases h4 : F = 4
  · subst h4
    go_wp2_with first
      | (go_at_call 45; refine (HP.out _).mono ?_; rintro e w2 ⟨rfl, hu, hb2⟩
         have HB2 := Lib.hid hb2
         have HU := Lib.hid hu
         clear hu hb2)
    go_end0
    have e1 : q = RegL.push ⟨ra, rb, rc, re⟩ arg := by rw [HQ.out, if_pos (show fn = 4 by have := HF.out; omega)]
    rw [e1]
    exact ⟨rfl, HU0.out.trans HU.out, HB2.out⟩
  by_cases h1 : F = 1
  · subst h1
    go_wp2_with first
      | (go_at_call 45; refine (HP.out _).mono ?_; rintro e w2 ⟨rfl, hu, hb2⟩
         have HB2 := Lib.hid hb2
         have HU := Lib.hid hu
         clear hu hb2)
    go_end0
    have e1 : q = RegL.push ⟨ra, rb, rc, re⟩ (wrap32 (4 * arg)) := by rw [HQ.out, if_neg (show ¬ fn = 4 by have := HF.out; omega), if_pos (show fn = 1 by have := HF.out; omega)]
    rw [e1]
    exact ⟨rfl, HU0.out.trans HU.out, HB2.out⟩
  by_cases h8 : F = 8
  · subst h8
    have e1 : q = ⟨wrap32 (ra + arg), rb, rc, re || (wrap32 (ra + arg) != ra + arg)⟩ := by rw [HQ.out, if_neg (show ¬ fn = 4 by have := HF.out; omega), if_neg (show ¬ fn = 1 by have := HF.out; omega), if_pos (show fn = 8 by have := HF.out; omega)]
    rw [e1]
    go_wp2
    go_quiet (first
      | (go_at_call 46; refine (HA.out _).mono ?_; unfold addF rv; rintro e w1 ⟨rfl, rfl⟩; exact ⟨rfl, _, rfl⟩))
    rename_i nq
    go_wp2
    all_goals
      go_end0
      exact ⟨rfl, ((HU0.out.drewN nq).set1).set1, (((HS.out.drewN nq).set_ 0 _).set_ 3 _).eq_ (by simp [RegL.cells, *])⟩
  by_cases h12 : F = 12
  · subst h12
    have e1 : q = ⟨truthL (ra == arg), rb, rc, re⟩ := by rw [HQ.out, if_neg (show ¬ fn = 4 by have := HF.out; omega), if_neg (show ¬ fn = 1 by have := HF.out; omega), if_neg (show ¬ fn = 8 by have := HF.out; omega), if_pos (show fn = 12 by have := HF.out; omega)]
    rw [e1]
    go_wp2
    obtain ⟨G, hG⟩ : ∃ G : Unit → World, ∀ i, G i = W0.drew := ⟨fun _ => W0.drew, fun _ => rfl⟩
    have Gc2 : ∀ i, (G i).cell? ⟨w.heap.size, 2, none⟩ = some (.int .i32 arg) := fun i => by rw [hG]; exact c2
    have Gd0 : ∀ i, (G i).cell? ⟨s, 0, none⟩ = some (.int .i32 ra) := fun i => by rw [hG]; exact d0
    refine wp_region_quiet_tailF G hG 11 (by kernel_rfl) (by kernel_rfl) ?_
    clear hG
    simp only [List.take_succ_cons, List.take_zero, List.drop_succ_cons, List.drop_zero]
    repeat (go_big_quiet_step (first
      | (go_at_call 47; refine (wTruth _ _).mono ?_; rintro e w1 ⟨rfl, rfl⟩; exact ⟨rfl, _, rfl⟩)))
    refine wpQuiet_nil ?_
    go_wp2
    go_end0
    exact ⟨rfl, HU0.out.set1.drew, ((HS.out.set_ 0 _).drew)⟩
  have e1 : q = (opR ⟨ra, rb, rc, re⟩ arg).getD ⟨ra, rb, rc, re⟩ := by rw [HQ.out, if_neg (show ¬ fn = 4 by have := HF.out; omega), if_neg (show ¬ fn = 1 by have := HF.out; omega), if_neg (show ¬ fn = 8 by have := HF.out; omega), if_neg (show ¬ fn = 12 by have := HF.out; omega)]
  rw [e1]
  generalize opR ⟨ra, rb, rc, re⟩ arg = R at *
  go_wp2_with first
      | (go_at_call 48; (with_reducible refine HO.out.mono ?_); rintro e w2 ⟨rfl, hu, hb2⟩
         have HB2 := Lib.hid hb2
         have HU := Lib.hid hu
         clear hu hb2)
  go_end0
  exact ⟨rfl, HU0.out.trans HU.out, HB2.out⟩
end Go.Proofs.YtbefmlioampgcaaGreatDoor

/- move: an access to a word, walked in the program. -/
namespace Go.Proofs.YtbefmlioampgcaaGreatDoor
open Go.RowKit
set_option linter.unusedVariables false
set_option linter.unusedSimpArgs false

/-- A block whose first cells are known. -/
def RowW (w : World) (g : Nat) (t : TypeId) (xs : List Value) : Prop := ∃ cur, Blk w g t cur ∧ xs.length ≤ cur.size ∧ cur.toList.take xs.length = xs
section
variable {w w' : World} {g : Nat} {t : TypeId} {xs : List Value}
theorem RowW.of_own {B n c size : Nat} (h : w.ownsRow B t size (.slice (some ⟨g, 0, none⟩) n c) n xs) : RowW w g t xs := by
  have hl := h.1
  rcases h.2 with ⟨e, _⟩ | ⟨g', cap, cur, e, hb, hg, hc, hm, hs, ht⟩
  · cases e
  · injection e with e1 e2 e3
    injection e1 with e1
    injection e1 with e1
    subst e1 e3
    refine ⟨cur, hg, ?_, ?_⟩
    · rw [hs, hl]; exact Nat.mul_le_mul_right _ hc
    · rw [hl]; exact ht
theorem RowW.lt (h : RowW w g t xs) : g < w.heap.size := by
  obtain ⟨cur, hb, _⟩ := h
  exact hb.lt
theorem RowW.drewN (h : RowW w g t xs) (k : Nat) : RowW (w.drewN k) g t xs := h
theorem RowW.drew (h : RowW w g t xs) : RowW w.drew g t xs := h
theorem RowW.alloc (h : RowW w g t xs) (o : Obj) : RowW (w.alloc o) g t xs := by
  obtain ⟨cur, hb, h1⟩ := h
  exact ⟨cur, hb.alloc o, h1⟩
theorem RowW.call (h : RowW w g t xs) (k : Below w.heap.size w w') : RowW w' g t xs := by
  obtain ⟨cur, hb, h1⟩ := h
  exact ⟨cur, hb.call k, h1⟩
theorem RowW.grown {row : Option Nat} (h : RowW w g t xs) (hb : w.grownBy w' row) (hg : some g ≠ row) : RowW w' g t xs := by
  obtain ⟨cur, hc, h1⟩ := h
  exact ⟨cur, hc.grown hb hg, h1⟩
theorem RowW.far (h : RowW w g t xs) {p : Addr} (hp : g ≠ p.block) (u : Value) : RowW (w.setCell p u) g t xs := by
  obtain ⟨cur, hc, h1⟩ := h
  exact ⟨cur, hc.far hp u, h1⟩
theorem RowW.reads {n size : Nat} (h : RowW w g t xs) (hn : xs.length = n * size) : Reads w w.heap.size size (some ⟨g, 0, none⟩) n xs := by
  obtain ⟨cur, hb, h1, h2⟩ := h
  refine ⟨hn, fun _ => ⟨_, rfl, hb.lt, fun j u hu => ?_⟩⟩
  have hadd : (⟨g, 0, none⟩ : Addr).add j = ⟨g, j, none⟩ := by unfold Addr.add; split <;> simp_all
  have hj := (List.getElem?_eq_some_iff.1 hu).1
  rw [hadd, hb.cell j]
  rw [← h2, List.getElem?_take_of_lt hj] at hu
  simpa using hu
theorem RowW.cell (h : RowW w g t xs) {j : Nat} {u : Value} (hu : xs[j]? = some u) : w.cell? ⟨g, j, none⟩ = some u := by
  obtain ⟨cur, hb, h1, h2⟩ := h
  have hj := (List.getElem?_eq_some_iff.1 hu).1
  rw [hb.cell j]
  rw [← h2, List.getElem?_take_of_lt hj] at hu
  simpa using hu
theorem RowW.frozen (h : RowW w g t xs) (i : Nat) : w.frozen? ⟨g, i, none⟩ = false := by
  obtain ⟨cur, hb, _⟩ := h
  exact hb.frozen i
theorem RowW.set (h : RowW w g t xs) (i : Nat) (u : Value) : RowW (w.setCell ⟨g, i, none⟩ u) g t (xs.set i u) := by
  obtain ⟨cur, hb, h1, h2⟩ := h
  refine ⟨_, hb.set_ i u, by simpa using h1, ?_⟩
  rw [List.length_set, Array.toList_setIfInBounds, List.take_set, h2]
end

def wordsC (m : List Int) : List Value := m.map fun v => .int .i32 v
theorem wordsC_len (m : List Int) : (wordsC m).length = m.length := by simp [wordsC]
theorem wordsC_get {m : List Int} {k : Nat} {v : Int} (h : m[k]? = some v) : (wordsC m)[k]? = some (.int .i32 v) := by simp [wordsC, h]
theorem wordsC_set (m : List Int) (k : Nat) (v : Int) : wordsC (m.set k v) = (wordsC m).set k (.int .i32 v) := by simp [wordsC, List.map_set]
/-- The words of a run lie in block g. -/
def MemAt (w : World) (g : Nat) (A : Option Addr) (m : List Int) : Prop := 0 < m.length → A = some ⟨g, 0, none⟩ ∧ RowW w g 21 (wordsC m)
/-- Only blocks s and g, of what was there, may have changed. -/
def Upd2 (s g : Nat) (w w' : World) : Prop := BelowE w.heap.size (fun k => k = s ∨ k = g) w w'
theorem Upd2.of {s g : Nat} {w w' : World} (h : UpdB s w w') : Upd2 s g w w' := ⟨h.os, h.tape, h.output, h.size, fun i hi hne => h.block i hi (fun e => hne (.inl e))⟩
theorem Upd2.of2 {s g : Nat} {w w' : World} (h : UpdB g w w') : Upd2 s g w w' := ⟨h.os, h.tape, h.output, h.size, fun i hi hne => h.block i hi (fun e => hne (.inr e))⟩
theorem Upd2.trans {s g : Nat} {w w' w'' : World} (h : Upd2 s g w w') (k : Upd2 s g w' w'') : Upd2 s g w w'' :=
  ⟨k.os.trans h.os, k.tape.trans h.tape, k.output.trans h.output, Nat.le_trans h.size k.size, fun i hi hne => (k.block i (Nat.lt_of_lt_of_le hi h.size) hne).trans (h.block i hi hne)⟩
theorem Upd2.below {s g B : Nat} {w w' : World} (h : Upd2 s g w w') (hs : B ≤ s) (hg : B ≤ g) (hB : B ≤ w.heap.size) : Below B w w' :=
  ⟨h.os, h.tape, h.output, h.size, fun k hk => h.block k (by omega) (by omega)⟩
theorem MemAt.upd {w w' : World} {s g : Nat} {A : Option Addr} {m : List Int} (h : MemAt w g A m) (hu : UpdB s w w') (hne : s ≠ g) : MemAt w' g A m := fun hm => by
  obtain ⟨h1, cur, h2, h3⟩ := h hm
  exact ⟨h1, cur, h2.upd hu (Ne.symm hne), h3⟩
/-- What move leaves. -/
def RetMove (o : Option (RegL × List Int)) (r : RegL) (m : List Int) (s g : Nat) (A : Option Addr) (w : World) (e : Ending) (w' : World) : Prop :=
  e = .returned (.bool o.isSome) ∧ Upd2 s g w w' ∧ Blk w' s 79 (o.getD (r, m)).1.cells ∧ MemAt w' g A (o.getD (r, m)).2
theorem w64 {z : Int} (h : is32 z) : wrap64 z = z := by unfold is32 at h; unfold wrap64; omega
set_option maxRecDepth 100000 in
set_option maxHeartbeats 4000000 in
theorem wMove (x : LineL) (hx : is32 x.arg) (r : RegL) (hr : r.Ok) (m : List Int) (hm : ∀ v ∈ m, is32 v) (hml : m.length ≤ 1000000) (s g c : Nat) (A : Option Addr) (hsg : s ≠ g) (w : World) (hs : Blk w s 79 r.cells) (hg : MemAt w g A m) :
    Calls Tryz.prog 25 #[.pointer (some ⟨s, 0, none⟩), .slice A m.length c, .agg (lineC x)] w (RetMove (moveO x r m) r m s g A w) := by
  obtain ⟨F, hF⟩ : ∃ F : Int, (x.fn : Int) = F := ⟨_, rfl⟩
  obtain ⟨K, hK⟩ : ∃ K : Int, wordK x r = K := ⟨_, rfl⟩
  have hK0 : K = if x.fn = 3 then wrap32 (r.a + wrap32 (4 * x.arg)) / 4 else x.arg := by rw [← hK]; rfl
  have hQ : moveO x r m = if K < 0 ∨ (m.length : Int) ≤ K then none
      else if x.fn = 7 then some (r.push (m.getD K.toNat 0), m)
      else if x.fn = 3 then some (⟨m.getD K.toNat 0, r.b, r.c, r.e⟩, m)
      else some (r.pop, m.set K.toNat r.a) := by unfold moveO; rw [hK]
  have HQ := Lib.hid hQ
  clear hQ hK
  obtain ⟨W0, hW0⟩ : ∃ W, w.alloc (.cells (lineC x) 62) = W := ⟨_, rfl⟩
  have b0 : Blk W0 w.heap.size 62 (lineC x) := by rw [← hW0]; exact Blk.new _ _ _
  have hs0 : Blk W0 s 79 r.cells := by rw [← hW0]; exact hs.alloc _
  have HU0 : Hid (UpdB s w W0) := Lib.hid (by rw [← hW0]; exact UpdB.alloc _ _)
  have HS := Lib.hid hs0
  have HG : Hid (MemAt W0 g A m) := Lib.hid (hg.upd HU0.out hsg)
  have HX := Lib.hid hx
  have HR := Lib.hid hr
  have HM := Lib.hid hm
  simp only [lineC, hF] at hW0 b0 ⊢
  simp only [RegL.cells] at hs0
  have c0 := b0.cell 0
  have c1 := b0.cell 1
  have c2 := b0.cell 2
  have c3 := b0.cell 3
  have c4 := b0.cell 4
  simp at c0 c1 c2 c3 c4
  have d0 := hs0.cell 0
  have d1 := hs0.cell 1
  have d2 := hs0.cell 2
  have d3 := hs0.cell 3
  simp at d0 d1 d2 d3
  have g0 := hs0.frozen 0
  have g1 := hs0.frozen 1
  have g2 := hs0.frozen 2
  have g3 := hs0.frozen 3
  have hlt := b0.lt
  have hls := hs0.lt
  have hne : ¬ s = w.heap.size := by have := hs.lt; omega
  have x1 := w64 hx
  generalize hq : moveO x r m = q at *
  generalize strB x.label = s1 at *
  generalize strB x.target = s2 at *
  generalize strB x.frm = s3 at *
  generalize x.arg = arg at *
  generalize hfn : x.fn = fn at *
  obtain ⟨ra, rb, rc, re⟩ := r
  simp only at *
  have HF := Lib.hid hF
  have HK := Lib.hid hK0
  clear b0 hfn hF hq hs hs0 hr hx hm hg hK0
  go_enter Tryz.func25, Tryz.ntmps25
  by_cases h3 : F = 3
  · subst h3
    go_wp2
    go_quiet (fail)
    rename_i nq
    have hKK : wrap64 (wrap32 (ra + wrap32 (4 * arg)) / 4) = K := by rw [HK.out, if_pos (show fn = 3 by have := HF.out; omega)]; unfold wrap64 wrap32; omega
    have HSQ := Lib.hid (HS.out.drewN nq)
    have HUQ := Lib.hid (HU0.out.drewN nq)
    have HGQ : Hid (MemAt (W0.drewN nq) g A m) := Lib.hid HG.out
    rw [hKK]
    clear hKK
    by_cases hr1 : K < 0
    · have e1 : q = none := by rw [HQ.out, if_pos (.inl hr1)]
      subst e1
      go_wp2
      go_ret
      exact ⟨rfl, Upd2.of HUQ.out, HSQ.out, HGQ.out⟩
    by_cases hr2 : (m.length : Int) ≤ K
    · have e1 : q = none := by rw [HQ.out, if_pos (.inr hr2)]
      subst e1
      go_wp2
      go_ret
      exact ⟨rfl, Upd2.of HUQ.out, HSQ.out, HGQ.out⟩
    obtain ⟨k, rfl⟩ : ∃ k : Nat, K = k := ⟨K.toNat, by omega⟩
    have hkm : k < m.length := by omega
    obtain ⟨v, hv⟩ : ∃ v, m[k]? = some v := ⟨_, List.getElem?_eq_getElem hkm⟩
    obtain ⟨rfl, hrow⟩ := HGQ.out (by omega)
    have hkc := hrow.cell (wordsC_get hv)
    have hkf := hrow.frozen k
    have hgl := hrow.lt
    have hgd : m.getD k 0 = v := by rw [List.getD_eq_getElem?_getD, hv]; rfl
    have hq : q = some (⟨v, rb, rc, re⟩, m) := by rw [HQ.out, if_neg (by omega), if_neg (show ¬ fn = 7 by have := HF.out; omega), if_pos (show fn = 3 by have := HF.out; omega), Int.toNat_natCast, hgd]
    have HROW := Lib.hid hrow
    subst hq
    clear hrow hv hgd HQ
    go_wp2
    go_ret
    exact ⟨rfl, Upd2.of HUQ.out.set1, HSQ.out.set_ 0 _, fun hm => ⟨rfl, HROW.out.far (Ne.symm hsg) _⟩⟩
  have hKK : arg = K := by rw [HK.out, if_neg (show ¬ fn = 3 by have := HF.out; omega)]
  subst hKK
  have HSQ := HS
  have HUQ := HU0
  have HGQ := HG
  by_cases h7 : F = 7
  · subst h7
    by_cases hr1 : arg < 0
    · have e1 : q = none := by rw [HQ.out, if_pos (.inl hr1)]
      subst e1
      go_wp2
      go_ret
      exact ⟨rfl, Upd2.of HUQ.out, HSQ.out, HGQ.out⟩
    by_cases hr2 : (m.length : Int) ≤ arg
    · have e1 : q = none := by rw [HQ.out, if_pos (.inr hr2)]
      subst e1
      go_wp2
      go_ret
      exact ⟨rfl, Upd2.of HUQ.out, HSQ.out, HGQ.out⟩
    obtain ⟨k, hk⟩ : ∃ k : Nat, arg = k := ⟨arg.toNat, by omega⟩
    subst hk
    have hkm : k < m.length := by omega
    obtain ⟨v, hv⟩ : ∃ v, m[k]? = some v := ⟨_, List.getElem?_eq_getElem hkm⟩
    obtain ⟨rfl, hrow⟩ := HGQ.out (by omega)
    have hkc := hrow.cell (wordsC_get hv)
    have hkf := hrow.frozen k
    have hgl := hrow.lt
    have hgd : m.getD k 0 = v := by rw [List.getD_eq_getElem?_getD, hv]; rfl
    have hq : q = some (RegL.push ⟨ra, rb, rc, re⟩ v, m) := by rw [HQ.out, if_neg (by omega), if_pos (show fn = 7 by have := HF.out; omega), Int.toNat_natCast, hgd]
    have HROW := Lib.hid hrow
    subst hq
    clear hrow hv hgd HQ
    have HP := Lib.hid (wPush ⟨ra, rb, rc, re⟩ v s W0 HS.out)
    go_wp2_with first
      | (go_at_call 45; (with_reducible refine HP.out.mono ?_); rintro e w2 ⟨rfl, hu, hb2⟩
         have HB2 := Lib.hid hb2
         have HU := Lib.hid hu
         clear hu hb2)
    go_ret
    exact ⟨rfl, Upd2.of (HUQ.out.trans HU.out), HB2.out, MemAt.upd HGQ.out HU.out hsg⟩
  by_cases hr1 : arg < 0
  · have e1 : q = none := by rw [HQ.out, if_pos (.inl hr1)]
    subst e1
    go_wp2
    go_ret
    exact ⟨rfl, Upd2.of HUQ.out, HSQ.out, HGQ.out⟩
  by_cases hr2 : (m.length : Int) ≤ arg
  · have e1 : q = none := by rw [HQ.out, if_pos (.inr hr2)]
    subst e1
    go_wp2
    go_ret
    exact ⟨rfl, Upd2.of HUQ.out, HSQ.out, HGQ.out⟩
  obtain ⟨k, hk⟩ : ∃ k : Nat, arg = k := ⟨arg.toNat, by omega⟩
  subst hk
  have hkm : k < m.length := by omega
  obtain ⟨v, hv⟩ : ∃ v, m[k]? = some v := ⟨_, List.getElem?_eq_getElem hkm⟩
  obtain ⟨rfl, hrow⟩ := HGQ.out (by omega)
  have hkc := hrow.cell (wordsC_get hv)
  have hkf := hrow.frozen k
  have hgl := hrow.lt
  have hgd : m.getD k 0 = v := by rw [List.getD_eq_getElem?_getD, hv]; rfl
  have hq : q = some (RegL.pop ⟨ra, rb, rc, re⟩, m.set k ra) := by rw [HQ.out, if_neg (by omega), if_neg (show ¬ fn = 7 by have := HF.out; omega), if_neg (show ¬ fn = 3 by have := HF.out; omega), Int.toNat_natCast]
  have HROW := Lib.hid hrow
  subst hq
  clear hrow hv hgd HQ
  have HP := Lib.hid (wPop ⟨ra, rb, rc, re⟩ s (W0.setCell ⟨g, k, none⟩ (.int .i32 ra)) (HS.out.far hsg _))
  go_wp2_with first
    | (go_at_call 24; (with_reducible refine HP.out.mono ?_); rintro e w2 ⟨rfl, hu, hb2⟩
       have HB2 := Lib.hid hb2
       have HU := Lib.hid hu
       clear hu hb2)
  go_ret
  have hm2 : MemAt (W0.setCell ⟨g, k, none⟩ (.int .i32 ra)) g (some ⟨g, 0, none⟩) (m.set k ra) := fun hm => ⟨rfl, by rw [wordsC_set]; exact HROW.out.set k _⟩
  exact ⟨rfl, ((Upd2.of HUQ.out).trans (Upd2.of2 (UpdB.set _ _ _))).trans (Upd2.of HU.out), HB2.out, hm2.upd HU.out hsg⟩
end Go.Proofs.YtbefmlioampgcaaGreatDoor

/- The map from labels to lines as the program's check fills it, and the error of lines, in plain words. -/
namespace Go.Proofs.YtbefmlioampgcaaGreatDoor
open Go.Maps

/-- Where each label stands last; lines without a label have the empty one. -/
def mapG (l : List LineL) : DataW Unit := l.zipIdx.foldl (fun D p => D.put (.string p.1.label) (.lit (.int .i64 p.2))) (.map [])
theorem mapG_snoc (l : List LineL) (x : LineL) : mapG (l ++ [x]) = (mapG l).put (.string x.label) (.lit (.int .i64 l.length)) := by
  simp [mapG, List.zipIdx_append, List.foldl_append]
theorem mapG_isMap (l : List LineL) : IsMap (mapG l) := by
  refine snocInd (P := fun l => IsMap (mapG l)) isMap_empty (fun l x ih => ?_) l
  rw [mapG_snoc]
  exact ih.put _ _
theorem mapG_has (n : List UInt8) (l : List LineL) : has (mapG l) (.string n) = (atL l n).isSome := by
  refine snocInd (P := fun l => has (mapG l) (.string n) = (atL l n).isSome) rfl (fun l x ih => ?_) l
  rw [mapG_snoc, atL_snoc]
  by_cases hn : x.label = n
  · subst hn
    rw [has_put_same (mapG_isMap l) (key_str x.label)]
    simp
  · rw [has_put_other (by intro e; injection e with e; exact hn e.symm), ih]
    simp [hn]
theorem mapG_at {l : List LineL} (hd : Dist l) {n : List UInt8} (hn : n ≠ []) : (mapG l).atKey (.string n) (.lit (.int .i64 0)) = .lit (.int .i64 ((atL l n).getD 0 : Nat)) := by
  revert hd
  refine snocInd (P := fun l => Dist l → (mapG l).atKey (.string n) (.lit (.int .i64 0)) = .lit (.int .i64 ((atL l n).getD 0 : Nat))) (fun _ => rfl) (fun l x ih hd => ?_) l
  rw [mapG_snoc, atL_snoc]
  have i1 := ih hd.init
  by_cases he : x.label = n
  · subst he
    rw [atKey_put_same (mapG_isMap l) (key_str x.label)]
    have h1 := hd l.length x (by simp) hn
    rw [atL_snoc] at h1
    rw [h1]; rfl
  · rw [atKey_put_other (by intro e; injection e with e; exact he e.symm), i1]
    simp [he]
theorem runs_take_succ {ls : List LineL} {k : Nat} {x : LineL} (hx : ls[k]? = some x) (h : (ls.take k).all runsB = true) (hv : runsB x = true) : (ls.take (k + 1)).all runsB = true := by
  rw [List.take_add_one, hx, List.all_append, h]
  simp [hv]
theorem fault_two {ls : List LineL} {k : Nat} {x : LineL} (h : ls[k]? = some x) (hv : runsB x = false) : faultE ls = 2 := by
  have : ls.all runsB = false := by
    rw [List.all_eq_false]
    exact ⟨x, List.mem_of_getElem? h, by simp [hv]⟩
  unfold faultE
  rw [this]; rfl
theorem fault_sixty {ls : List LineL} {k : Nat} {x : LineL} (ha : ls.all runsB = true) (h : ls[k]? = some x) (hv : okR ls k x = false) : faultE ls = 60 := by
  have : (ls.zipIdx.all fun p => okR ls p.2 p.1) = false := by
    rw [List.all_eq_false]
    refine ⟨(x, k), ?_, by simp [hv]⟩
    exact List.mem_of_getElem? (i := k) (by simp [List.getElem?_zipIdx, h])
  unfold faultE
  rw [ha, this]; rfl
theorem fault_zero {ls : List LineL} (ha : ls.all runsB = true) (h : ∀ (k : Nat) (x : LineL), ls[k]? = some x → okR ls k x = true) : faultE ls = 0 := by
  have : (ls.zipIdx.all fun p => okR ls p.2 p.1) = true := by
    rw [List.all_eq_true]
    rintro ⟨x, k⟩ hm
    obtain ⟨i, hi⟩ := List.getElem?_of_mem hm
    rw [List.getElem?_zipIdx] at hi
    cases hg : ls[i]? with
    | none => simp [hg] at hi
    | some y =>
      simp [hg] at hi
      obtain ⟨rfl, rfl⟩ := hi
      exact h _ _ hg
  unfold faultE
  rw [ha, this]; rfl
theorem fault_dup {ls : List LineL} (ha : ls.all runsB = true) (hd : ¬ Dist ls) : faultE ls = 60 := by
  simp only [Dist, Classical.not_forall] at hd
  obtain ⟨j, x, hx, hn, he⟩ := hd
  refine fault_sixty ha hx ?_
  have hx2 : x.label.isEmpty = false := by simpa using hn
  have h3 : (atL ls x.label == some j) = false := by simpa using he
  simp [okR, hx2, h3]
/-- A label that stands already ahead of line k. -/
theorem dup_not {ls : List LineL} {k : Nat} {x : LineL} (h : ls[k]? = some x) (hx : x.label ≠ []) (hs : (atL (ls.take k) x.label).isSome = true) : ¬ Dist ls := by
  intro hd
  obtain ⟨j, hj⟩ := Option.isSome_iff_exists.1 hs
  have hl := atL_lt hj
  have e : atL ls x.label = some j := by
    conv => lhs; rw [← List.take_append_drop k ls]
    unfold atL at hj ⊢
    rw [List.findIdx?_append, hj]; rfl
  have hk : k < ls.length := by obtain ⟨h, _⟩ := List.getElem?_eq_some_iff.1 h; exact h
  have := hd k x h hx
  rw [e] at this
  injection this with this
  simp at hl; omega
theorem okR_dist {ls : List LineL} (hd : Dist ls) {j : Nat} {x : LineL} (hx : ls[j]? = some x) : okR ls j x = (x.target.isEmpty || x.target == stopT || ((atL ls x.target).isSome && decide (j < (atL ls x.target).getD 0))) := by
  have hlab : (x.label.isEmpty || atL ls x.label == some j) = true := by
    by_cases hz : x.label = []
    · simp [hz]
    · simp [hd j x hx hz]
  rw [okR, hlab, Bool.true_and]
  cases atL ls x.target <;> simp
/-- In lines without a fault a label stands once alone. -/
theorem fault_dist {ls : List LineL} (h : faultE ls = 0) : Dist ls ∧ (∀ (k : Nat) (x : LineL), ls[k]? = some x → okR ls k x = true) ∧ ls.all runsB = true := by
  have ha : ls.all runsB = true := by
    cases ha : ls.all runsB with
    | true => rfl
    | false => unfold faultE at h; rw [ha] at h; simp at h
  have h2 : ∀ (k : Nat) (x : LineL), ls[k]? = some x → okR ls k x = true := by
    intro k x hx
    cases hv : okR ls k x with
    | true => rfl
    | false => rw [fault_sixty ha hx hv] at h; simp at h
  refine ⟨fun j x hx hn => ?_, h2, ha⟩
  have h3 := h2 j x hx
  have hx2 : x.label.isEmpty = false := by simpa using hn
  simp [okR, hx2] at h3
  exact h3.1
end Go.Proofs.YtbefmlioampgcaaGreatDoor
