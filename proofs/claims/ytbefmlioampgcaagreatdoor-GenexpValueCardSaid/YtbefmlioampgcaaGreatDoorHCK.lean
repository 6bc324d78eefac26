/- What an expression needs, joined out of what its parts need: depth.join, walked for no part and for one. -/
import Derived.Test.YtbefmlioampgcaaGreatDoorHK10
import Derived.Test.YtbefmlioampgcaaGreatDoorHK34
namespace Go.Proofs.YtbefmlioampgcaaGreatDoor
open Go.RowKit
set_option linter.unusedVariables false
set_option linter.unusedSimpArgs false

structure NeedL where
  ok : Bool
  safe : Bool
  regs : Nat
  temps : Nat
def NeedL.cells (x : NeedL) : Array Value := #[.bool x.ok, .bool x.safe, .int .i64 x.regs, .int .i64 x.temps]
def needsC (l : List NeedL) : List Value := l.flatMap fun x => x.cells.toList
/-- Which operators have a value for all operands. -/
def quietB (o : Nat) : Bool := decide (6 ≤ o ∧ o ≠ 23)
def quietGL : Nat := 0
def quietV : Array Value := ((List.range 27).map fun o => Value.bool (quietB o)).toArray
def QuietAt (w : World) : Prop := ∃ t fr, w.heap[quietGL]? = some (.cells quietV t fr)
theorem QuietAt.cell {w : World} (h : QuietAt w) {i : Nat} (hi : i < 27) : w.cell? ⟨quietGL, i, none⟩ = some (.bool (quietB i)) := by
  obtain ⟨t, fr, h⟩ := h
  rw [cell_of_row w quietGL i quietV t fr h]
  simp [quietV, hi]
theorem QuietAt.lt {w : World} (h : QuietAt w) : quietGL < w.heap.size := by
  obtain ⟨t, fr, h⟩ := h
  exact (Array.getElem?_eq_some_iff.1 h).1
theorem QuietAt.below {w w' : World} {B : Nat} (h : QuietAt w) (hb : Below B w w') (hB : quietGL < B) : QuietAt w' := by
  obtain ⟨t, fr, h⟩ := h
  exact ⟨t, fr, (hb.block _ hB).trans h⟩
/-- Out of what the parts need. -/
def joinN (k o tk : Nat) : List NeedL → NeedL
  | [] => ⟨true, true, 1, 0⟩
  | [n] => ⟨n.ok, n.safe && (easyE k o tk || (k == 4 && quietB o)), if easyE k o tk then n.regs else max n.regs 2, n.temps⟩
  | a :: b :: _ =>
    if o = 20 ∨ o = 21 ∨ a.regs ≠ b.regs then ⟨true, a.safe && b.safe && quietB o, max a.regs b.regs, max a.temps b.temps⟩
    else if a.regs < 3 then ⟨true, a.safe && b.safe && quietB o, max a.regs b.regs + 1, max a.temps b.temps⟩
    else ⟨true, a.safe && b.safe && quietB o, max a.regs b.regs, max b.temps (a.temps + 1)⟩
theorem need_size : (Tryz.prog.info? 90).map (·.size) = some 4 := by kernel_rfl
theorem need_ret {fn : Func} {p : Tmp} (h : fn.results = #[.cell p 90]) (tmps : Array Value) (w W : World) (g : Nat) (r : NeedL) (hp : tmps.getD p undef = .pointer (some ⟨g, 0, none⟩)) (hB : Blk W g 90 r.cells) (hk : Below w.heap.size w W) :
    bodyPost Tryz.prog fn (RetV (.agg r.cells) w) Exit.ret { tmps := tmps, defers := [] } W :=
  bodyPost_ret (v := .agg r.cells) (results_cell_row h _ _ g _ _ (0, 0) _ hp hB Tryz.underlying90 rfl need_size) rfl ⟨rfl, hk⟩
set_option maxRecDepth 100000 in
set_option maxHeartbeats 4000000 in
theorem dJoin0 (e : KE) (A : Option Addr) (c : Nat) (w : World) :
    Calls Tryz.prog 59 #[.agg e.cells, .slice A 0 c] w (RetV (.agg (joinN e.kind e.oper e.tk []).cells) w) := by
  simp only [KE.cells]
  go_enter Tryz.func59, Tryz.ntmps59
  go_wp2
  exact need_ret rfl _ _ _ (w.heap.size + 1) ⟨true, true, 1, 0⟩ rfl (blk_2 _ _ _ _) (below_2 _ _ _)
def need0 : Array Value := #[.bool false, .bool false, .int .i64 0, .int .i64 0]
theorem lay3n (w : World) (a b c : Array Value) (t u v : TypeId) : Below w.heap.size w (((w.alloc (.cells a t)).alloc (.cells b u)).alloc (.cells c v)) ∧ Blk (((w.alloc (.cells a t)).alloc (.cells b u)).alloc (.cells c v)) w.heap.size t a ∧
    Blk (((w.alloc (.cells a t)).alloc (.cells b u)).alloc (.cells c v)) (w.heap.size + 1) u b ∧ Blk (((w.alloc (.cells a t)).alloc (.cells b u)).alloc (.cells c v)) (w.heap.size + 2) v c := by
  refine ⟨(below_2 w _ _).alloc (by simp; omega) _, ((Blk.new w t a).alloc _).alloc _, (blk_2 w _ u b).alloc _, ?_⟩
  have := blk_2 (w.alloc (.cells a t)) (.cells b u) v c
  simpa using this
theorem need_end {w W : World} (q : NeedL) (hB : Blk W (w.heap.size + 1) 90 need0) (hk : Below w.heap.size w W) :
    Blk ((((W.setCell ⟨w.heap.size + 1, 0, none⟩ (.bool q.ok)).setCell ⟨w.heap.size + 1, 1, none⟩ (.bool q.safe)).setCell ⟨w.heap.size + 1, 2, none⟩ (.int .i64 q.regs)).setCell ⟨w.heap.size + 1, 3, none⟩ (.int .i64 q.temps)) (w.heap.size + 1) 90 q.cells ∧
      Below w.heap.size w ((((W.setCell ⟨w.heap.size + 1, 0, none⟩ (.bool q.ok)).setCell ⟨w.heap.size + 1, 1, none⟩ (.bool q.safe)).setCell ⟨w.heap.size + 1, 2, none⟩ (.int .i64 q.regs)).setCell ⟨w.heap.size + 1, 3, none⟩ (.int .i64 q.temps)) :=
  ⟨((((hB.set_ 0 _).set_ 1 _).set_ 2 _).set_ 3 _), (((hk.setCell (Nat.le_succ _) _).setCell (Nat.le_succ _) _).setCell (Nat.le_succ _) _).setCell (Nat.le_succ _) _⟩
/-- As the case with a call of top ends: two stores into the part's box, four into the result's, and the made slice's block. -/
theorem need_top {w W1 : World} (q : NeedL) (s : Bool) (hs : s = q.safe) (hB : Blk W1 (w.heap.size + 1) 90 need0) (hk : Below w.heap.size w W1) (fn : Func) (p : Tmp) (h : fn.results = #[.cell p 90]) (tmps : Array Value) (o : Obj) (u : Value) (hp : tmps.getD p undef = .pointer (some ⟨w.heap.size + 1, 0, none⟩)) :
    bodyPost Tryz.prog fn (RetV (.agg #[.bool q.ok, .bool q.safe, .int .i64 q.regs, .int .i64 q.temps]) w) Exit.ret { tmps := tmps, defers := [] }
      (((((((W1.setCell ⟨w.heap.size + 1 + 1, 2, none⟩ u).setCell ⟨w.heap.size + 1 + 1, 1, none⟩ (.bool s)).setCell ⟨w.heap.size + 1, 0, none⟩ (.bool q.ok)).setCell ⟨w.heap.size + 1, 1, none⟩ (.bool s)).setCell ⟨w.heap.size + 1, 2, none⟩ (.int .i64 q.regs)).setCell ⟨w.heap.size + 1, 3, none⟩ (.int .i64 q.temps)).alloc o) := by
  subst hs
  have n1 : w.heap.size + 1 ≠ w.heap.size + 1 + 1 := by omega
  have n2 : w.heap.size ≤ w.heap.size + 1 + 1 := by omega
  obtain ⟨x1, x2⟩ := need_end (w := w) (W := (W1.setCell ⟨w.heap.size + 1 + 1, 2, none⟩ u).setCell ⟨w.heap.size + 1 + 1, 1, none⟩ (.bool q.safe)) q ((hB.far n1 _).far n1 _) ((hk.setCell n2 _).setCell n2 _)
  exact need_ret h _ w _ (w.heap.size + 1) q hp (x1.alloc _) (x2.alloc x2.size _)
theorem easyE_eq (k o tk : Nat) : easyE k o tk = ((k == 4 && (o == 25 || o == 26)) || (k == 6 && tk == 1)) := rfl
set_option maxRecDepth 100000 in
set_option maxHeartbeats 4000000 in
theorem dJoin1 (e : KE) (n : NeedL) (hn : n.regs ≤ 1000 ∧ n.temps ≤ 1000) (ho : e.kind = 4 → e.oper < 27) (A : Option Addr) (c : Nat) (w : World) (hr : Reads w w.heap.size 4 A 1 (needsC [n])) (hq : QuietAt w) :
    Calls Tryz.prog 59 #[.agg e.cells, .slice A 1 c] w (RetV (.agg (joinN e.kind e.oper e.tk [n]).cells) w) := by
  obtain ⟨b, off, rfl, hb, hc⟩ := hr.addr (by omega) (by omega)
  have r0 := hc 0 _ rfl
  have r1 := hc 1 _ rfl
  have r2 := hc 2 _ rfl
  have r3 := hc 3 _ rfl
  rw [Nat.add_zero] at r0
  clear hc hr
  obtain ⟨nok, nsafe, nregs, ntemps⟩ := n
  obtain ⟨k, o, t, num, v, A', c', l⟩ := e
  simp only [KE.cells]
  simp only at hn ho r0 r1 r2 r3
  obtain ⟨R, hR⟩ : ∃ R, joinN k o t [⟨nok, nsafe, nregs, ntemps⟩] = R := ⟨_, rfl⟩
  simp only [hR]
  have HRJ : Hid (R = ⟨nok, nsafe && (easyE k o t || (k == 4 && quietB o)), if easyE k o t then nregs else max nregs 2, ntemps⟩) := Lib.hid (by rw [← hR]; rfl)
  have HEY := Lib.hid (easyE_eq k o t)
  clear hR
  simp only [NeedL.cells]
  obtain ⟨K, hK⟩ : ∃ K : Int, (k : Int) = K := ⟨_, rfl⟩
  obtain ⟨O, hO⟩ : ∃ K : Int, (o : Int) = K := ⟨_, rfl⟩
  obtain ⟨T, hT⟩ : ∃ K : Int, (t : Int) = K := ⟨_, rfl⟩
  rw [hK, hO, hT]
  obtain ⟨W1, hW1⟩ : ∃ W, ((w.alloc (.cells #[.int .u8 K, .int .u8 O, .int .u8 T, .int .i32 num, .int .i64 v, .slice A' l.length c'] 27)).alloc (.cells need0 90)).alloc (.cells #[.bool nok, .bool nsafe, .int .i64 nregs, .int .i64 ntemps] 90) = W := ⟨_, rfl⟩
  obtain ⟨y1, y2, y3, y4⟩ := lay3n w #[.int .u8 K, .int .u8 O, .int .u8 T, .int .i32 num, .int .i64 v, .slice A' l.length c'] need0 #[.bool nok, .bool nsafe, .int .i64 nregs, .int .i64 ntemps] 27 90 90
  rw [hW1] at y1 y2 y3 y4
  have HK1 := Lib.hid y1
  have HYD := Lib.hid y3
  have HYN := Lib.hid y4
  have HQ1 : Hid (QuietAt W1) := Lib.hid (hq.below y1 hq.lt)
  have hql : quietGL < W1.heap.size := HQ1.out.lt
  have hqw : quietGL < w.heap.size := hq.lt
  simp only [need0] at y3 hW1
  have e0 := y2.cell 0
  have e1 := y2.cell 1
  have e2 := y2.cell 2
  have e3 := y2.cell 3
  have e4 := y2.cell 4
  have e5 := y2.cell 5
  simp at e0 e1 e2 e3 e4 e5
  have d0 := y3.cell 0
  have d1 := y3.cell 1
  have d2 := y3.cell 2
  have d3 := y3.cell 3
  simp at d0 d1 d2 d3
  have f0 := y3.frozen 0
  have f1 := y3.frozen 1
  have f2 := y3.frozen 2
  have f3 := y3.frozen 3
  have x0 := y4.cell 0
  have x1 := y4.cell 1
  have x2 := y4.cell 2
  have x3 := y4.cell 3
  simp at x0 x1 x2 x3
  have g0 := y4.frozen 0
  have g1 := y4.frozen 1
  have g2 := y4.frozen 2
  have g3 := y4.frozen 3
  have z2 := y2.lt
  have z3 := y3.lt
  have z4 := y4.lt
  clear y1 y2 y3 y4 hq
  have HKK := Lib.hid hK
  have HOO := Lib.hid hO
  have HTT := Lib.hid hT
  have HO27 := Lib.hid ho
  clear hK hO hT ho
  have HT : Hid (∀ w' : World, Calls Tryz.prog 90 #[.int .i64 nregs, .slice (some ⟨w'.heap.size, 0, none⟩) 1 1] (w'.alloc (.cells #[.int .i64 2] 3)) (RetQ (.int .i64 ((max nregs 2 : Nat) : Int)) (w'.alloc (.cells #[.int .i64 2] 3)))) := Lib.hid fun w' => by
    have hin : intsIn (w'.alloc (.cells #[.int .i64 2] 3)) (w'.heap.size + 1) (some ⟨w'.heap.size, 0, none⟩) [2] := by
      refine ⟨by simp [lenOk], ⟨by simp [intsV], fun _ => ⟨_, rfl, by simp, fun j u hu => ?_⟩⟩, by simp [i64ok]⟩
      have hj : j = 0 := by have := (List.getElem?_eq_some_iff.1 hu).1; simp [intsV] at this; omega
      subst hj
      rw [Addr.add_lit, (Blk.new w' _ _).cell]
      simpa [intsV] using hu
    have h1 := dTop nregs (some ⟨w'.heap.size, 0, none⟩) 1 [2] _ _ hin
    have h2 : topL (nregs : Int) [2] = ((max nregs 2 : Nat) : Int) := by simp [topL]; omega
    rw [h2] at h1
    exact h1
  go_enter Tryz.func59, Tryz.ntmps59
  by_cases h4 : K = 4
  · have hk4 : k = 4 := by have := HKK.out; omega
    subst h4
    by_cases h25 : O = 25
    · subst h25
      have eR : R = ⟨nok, nsafe, nregs, ntemps⟩ := by
        have h0 := HKK.out
        have h1 := HOO.out
        have h2 := HTT.out
        rw [HRJ.out, HEY.out]
        simp [show k = 4 by omega, show o = 25 by omega]
      subst eR
      cases nsafe
      all_goals
        go_wp2
        obtain ⟨x1, x2⟩ := need_end (w := w) (W := W1.setCell ⟨w.heap.size + 2, 1, none⟩ _) ⟨nok, _, nregs, ntemps⟩ (HYD.out.far (by simp) _) (HK1.out.setCell (by simp) _)
        exact need_ret rfl _ w _ (w.heap.size + 1) _ rfl x1 x2
    by_cases h26 : O = 26
    · subst h26
      have eR : R = ⟨nok, nsafe, nregs, ntemps⟩ := by
        have h0 := HKK.out
        have h1 := HOO.out
        have h2 := HTT.out
        rw [HRJ.out, HEY.out]
        simp [show k = 4 by omega, show o = 26 by omega]
      subst eR
      cases nsafe
      all_goals
        go_wp2
        obtain ⟨x1, x2⟩ := need_end (w := w) (W := W1.setCell ⟨w.heap.size + 2, 1, none⟩ _) ⟨nok, _, nregs, ntemps⟩ (HYD.out.far (by simp) _) (HK1.out.setCell (by simp) _)
        exact need_ret rfl _ w _ (w.heap.size + 1) _ rfl x1 x2
    have ho27 := HO27.out hk4
    have hqc := HQ1.out.cell ho27
    simp only [quietGL] at hqc hql hqw
    obtain rfl : (o : Int) = O := HOO.out
    have hoI : (o : Int) < 27 := by omega
    have b25 : ((o : Int) == 25) = false := by simp; omega
    have b26 : ((o : Int) == 26) = false := by simp; omega
    generalize hqb : quietB o = qb at *
    have eR : R = ⟨nok, nsafe && qb, max nregs 2, ntemps⟩ := by
      have h0 := HKK.out
      have h1 := HOO.out
      have h2 := HTT.out
      rw [HRJ.out, HEY.out]
      simp [show k = 4 by omega, show (o == 25) = false by simp; omega, show (o == 26) = false by simp; omega, hqb]
    subst eR
    cases nsafe
    all_goals
      go_wp2_with first
        | (go_at_call 90; (with_reducible refine (HT.out _).mono ?_); rintro e w1 ⟨rfl, rfl⟩)
      exact need_top ⟨nok, _, max nregs 2, ntemps⟩ _ rfl HYD.out HK1.out _ _ rfl _ _ _ rfl
  by_cases h6 : K = 6
  · subst h6
    by_cases ht : T = 1
    · subst ht
      have eR : R = ⟨nok, nsafe, nregs, ntemps⟩ := by
        have h0 := HKK.out
        have h1 := HOO.out
        have h2 := HTT.out
        rw [HRJ.out, HEY.out]
        simp [show k = 6 by omega, show t = 1 by omega]
      subst eR
      cases nsafe
      all_goals
        go_wp2
        obtain ⟨x1, x2⟩ := need_end (w := w) (W := W1.setCell ⟨w.heap.size + 2, 1, none⟩ _) ⟨nok, _, nregs, ntemps⟩ (HYD.out.far (by simp) _) (HK1.out.setCell (by simp) _)
        exact need_ret rfl _ w _ (w.heap.size + 1) _ rfl x1 x2
    have eR : R = ⟨nok, false, max nregs 2, ntemps⟩ := by
      have h0 := HKK.out
      have h1 := HOO.out
      have h2 := HTT.out
      rw [HRJ.out, HEY.out]
      simp [show k = 6 by omega, show (t == 1) = false by simp; omega]
    subst eR
    have t1 : (T == 1) = false := by simpa using ht
    cases nsafe
    all_goals
      go_wp2_with first
        | (go_at_call 90; (with_reducible refine (HT.out _).mono ?_); rintro e w1 ⟨rfl, rfl⟩)
      exact need_top ⟨nok, _, max nregs 2, ntemps⟩ _ rfl HYD.out HK1.out _ _ rfl _ _ _ rfl
  have eR : R = ⟨nok, false, max nregs 2, ntemps⟩ := by
    have h0 := HKK.out
    have h1 := HOO.out
    have h2 := HTT.out
    rw [HRJ.out, HEY.out]
    simp [show (k == 6) = false by simp; omega, show (k == 4) = false by simp; omega]
  subst eR
  have k4 : (K == 4) = false := by simpa using h4
  have k6 : (K == 6) = false := by simpa using h6
  cases nsafe
  all_goals
    go_wp2_with first
      | (go_at_call 90; (with_reducible refine (HT.out _).mono ?_); rintro e w1 ⟨rfl, rfl⟩)
    exact need_top ⟨nok, _, max nregs 2, ntemps⟩ _ rfl HYD.out HK1.out _ _ rfl _ _ _ rfl
end Go.Proofs.YtbefmlioampgcaaGreatDoor
