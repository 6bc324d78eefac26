/- Texts that belong together, joined: what each one holds is told ahead of it. -/
import Derived.Test.YtekamebpjjkifaaHK47
import Derived.Test.YtekamebpjjkifaaHK48
/- The examples of the laws of chapter 40: head, walked. -/
namespace Go.Proofs.Ytekamebpjjkifaa
open Go.RowKit Go.Maps
set_option linter.unusedSimpArgs false
set_option linter.unusedVariables false

theorem between_short (k : KK) : (betweenQ k).2.length ≤ 64 := by
  cases h : mayK k with
  | false => unfold betweenQ; rw [h]; simp
  | true =>
    by_cases h0 : (betweenQ k).1 = 0
    · exact (betweenQ_ok h h0).2
    · unfold betweenQ at h0 ⊢
      rw [if_pos h] at h0 ⊢
      cases hb : betweenK k with
      | none => simp
      | some l => rw [hb] at h0; simp at h0
theorem smT_in {A A' : Option Addr} {c c' : Nat} {w : World} {B : Nat} (h : (smT A c).In w B) : (smT A c).In w B := h
/-- The kernel of the examples with other processors. -/
def smK' (K : KK) (A : Option Addr) (c : Nat) (l : List Int) : KK := { K with Ap := A, cp := c, procs := l }
theorem smK_with {more : Bool} {f : Nat → Option Addr} {c : Nat → Nat} {w : World} {B : Nat} {A : Option Addr} {l l' : List Int} (h : (smK more f c l).In w B) (hr : Reads w B 1 A l'.length (intsC l')) (hl : lenOk l') (hi : ∀ x ∈ l', i64ok x) :
    (smK more (fun n => if n = 14 then A else f n) (fun n => if n = 5 then l'.length else c n) l').In w B := by
  have e : smA more (fun n => if n = 14 then A else f n) = smA more f := by cases more <;> rfl
  have e' : smB more (fun n => if n = 14 then A else f n) = smB more f := by cases more <;> rfl
  obtain ⟨h1, h2, h3, -⟩ := h
  refine ⟨h1, h2, ?_, hl, hr, hi⟩
  unfold smK at h3 ⊢
  simp only [e, e']
  exact h3

theorem smL_ok : ∀ y ∈ smL, okPt y.o ∧ okPt y.i := by
  intro y hy
  simp [smL] at hy
  rcases hy with rfl | rfl | rfl | rfl <;> exact ⟨⟨⟨by decide, by decide⟩, ⟨by decide, by decide⟩⟩, ⟨⟨by decide, by decide⟩, ⟨by decide, by decide⟩⟩⟩
theorem smL_len : smL.length = 4 := rfl
theorem smL_ok1 : ∀ y ∈ smL.drop 1, okPt y.o ∧ okPt y.i := fun y hy => smL_ok y (List.mem_of_mem_drop hy)
/-- The boxes of the kernel and of the network. -/
structure HdS (W1 W : World) (g : Nat) (a b : Array Value) : Prop where
  bel : Below g W1 W
  kb : Blk W g 34 a
  tb : Blk W (g + 1) 40 b
  z : W1.heap.size ≤ W.heap.size
theorem HdS.call {W1 W W' : World} {g : Nat} {a b : Array Value} (h : HdS W1 W g a b) (hb : Below W.heap.size W W') : HdS W1 W' g a b :=
  ⟨h.bel.trans (hb.mono (by have := h.kb.lt; omega)), h.kb.call hb, h.tb.call hb, Nat.le_trans h.z hb.size⟩
theorem HdS.set_ {W1 W : World} {g : Nat} {a b : Array Value} (h : HdS W1 W g a b) (i : Nat) (v : Value) : HdS W1 (W.setCell ⟨g, i, none⟩ v) g (a.setIfInBounds i v) b :=
  ⟨h.bel.setCell (Nat.le_refl _) v, h.kb.set_ i v, h.tb.far (p := ⟨g, i, none⟩) (by show g + 1 ≠ g; omega) v, by simpa using h.z⟩
theorem far_of_blk {w : World} {B size n g : Nat} {A : Option Addr} {xs : List Value} {t : TypeId} {cs : Array Value} (h : Reads w B size A n xs) (hn : 0 < n) (hs : 0 < size) (hb : Blk w g t cs) (hl : cs.size < xs.length) : ∃ b off, A = some ⟨b, off, none⟩ ∧ (b ≠ g ∧ b < B) ∧ ∀ j u, xs[j]? = some u → w.cell? ⟨b, off + j, none⟩ = some u := by
  obtain ⟨b, off, hA, h1, h2⟩ := h.addr hn hs
  refine ⟨b, off, hA, ⟨fun e => ?_, h1⟩, h2⟩
  subst e
  have h3 := h2 (xs.length - 1) _ (List.getElem?_eq_getElem (by omega))
  have h4 := hb.cell (off + (xs.length - 1))
  rw [h3] at h4
  have h5 : cs[off + (xs.length - 1)]? = none := Array.getElem?_eq_none (by omega)
  rw [h5] at h4
  cases h4
/-- Rows that lie elsewhere, behind a store into a box. -/
theorem reads_not {w : World} {B size n g i : Nat} {A : Option Addr} {xs : List Value} {t : TypeId} {cs : Array Value} (h : Reads w B size A n xs) (hs : 0 < size) (hb : Blk w g t cs) (hl : cs.size < xs.length) (v : Value) : Reads (w.setCell ⟨g, i, none⟩ v) B size A n xs :=
  ⟨h.1, fun hn => by
    obtain ⟨b, off, hA, ⟨hne, -⟩, -⟩ := far_of_blk h hn hs hb hl
    obtain ⟨ad, e, hb, hc⟩ := h.2 hn
    rw [hA] at e
    injection e with e
    subst e
    exact ⟨_, hA, hb, fun j u hu => (World.cell?_setCell_other w ⟨g, i, none⟩ _ v (fun e => hne (by have := congrArg Addr.block e; rw [block_of_add] at this; exact this.symm))).trans (hc j u hu)⟩⟩
set_option maxRecDepth 100000 in
set_option maxHeartbeats 8000000 in
theorem lHead40 (w : World) : Calls Try.prog 7 #[] w (RetV (.bool true) w) := by
  have HS := Lib.hid (fun (more : Bool) (w1 : World) => lSample more w1)
  go_enter Try.func7, Try.ntmps7
  go_upto_region 2 with (first
    | (go_at_call 19; refine (HS.out false _).mono ?_; rintro e w1 ⟨hb1, f, c, TA, tc, he, hk1, ht1, hc1⟩
       simp only [smK, smT, KK.flat, TN.flat, manyP, List.length_cons, List.length_nil, Nat.zero_add, Nat.reduceAdd] at he
       subst he))
  obtain ⟨W1, hW1⟩ : ∃ W, (w1.alloc (.cells #[.slice (f 9) 1 (c 0), .slice (f 10) 6 (c 1), .int .u8 10, .int .i64 0, .int .i64 0, .int .u8 0, .slice none 0 0, .slice none 0 0, .slice none 0 0, .slice (f 11) 2 (c 2), .slice (f 14) 2 (c 5)] 34)).alloc (.cells #[.int .i64 2, .slice TA 2 tc, .int .i64 0, .int .i64 0] 40) = W := ⟨_, rfl⟩
  obtain ⟨l1, l2, l3⟩ := lay2 w1 #[.slice (f 9) 1 (c 0), .slice (f 10) 6 (c 1), .int .u8 10, .int .i64 0, .int .i64 0, .int .u8 0, .slice none 0 0, .slice none 0 0, .slice none 0 0, .slice (f 11) 2 (c 2), .slice (f 14) 2 (c 5)] #[.int .i64 2, .slice TA 2 tc, .int .i64 0, .int .i64 0] 34 40
  rw [hW1] at l1 l2 l3 ⊢
  have KW := Lib.hid (hb1.trans (l1.mono hb1.size))
  have HG : Hid (w.heap.size ≤ w1.heap.size) := Lib.hid hb1.size
  have HK := Lib.hid (hk1.below l1)
  have HT := Lib.hid (ht1.below l1)
  have HC := Lib.hid hc1
  have HZ : Hid (w1.heap.size + 2 ≤ W1.heap.size) := Lib.hid (by have := l3.lt; omega)
  have KB := Lib.hid l2
  have TB := Lib.hid l3
  clear hW1 l1 l2 l3 hb1 hk1 ht1 hc1
  generalize w1.heap.size = g at *
  have HBt : Hid (∀ w', Below g W1 w' → Calls Try.prog 8 #[.agg #[.slice (f 9) 1 (c 0), .slice (f 10) 6 (c 1), .int .u8 10, .int .i64 0, .int .i64 0, .int .u8 0, .slice none 0 0, .slice none 0 0, .slice none 0 0, .slice (f 11) 2 (c 2), .slice (f 14) 2 (c 5)]] w' (RetBt (0, [(1, 0, -1), (2, 0, 1), (3, 0, 1), (4, 1, 0)]) w')) := Lib.hid fun w' hb => by
    have h := pBetween (smK false f c [0, 1]) g w' (HK.out.below hb) (by have := HZ.out; have := hb.size; omega) HC.out
    rw [sm_between] at h
    exact h
  have HMk : Hid (∀ w', Below g W1 w' → Calls Try.prog 11 #[.agg #[.slice (f 9) 1 (c 0), .slice (f 10) 6 (c 1), .int .u8 10, .int .i64 0, .int .i64 0, .int .u8 0, .slice none 0 0, .slice none 0 0, .slice none 0 0, .slice (f 11) 2 (c 2), .slice (f 14) 2 (c 5)], .agg #[.int .i64 2, .slice TA 2 tc, .int .i64 0, .int .i64 0]] w' (RetPl (0, smL) w')) := Lib.hid fun w' hb => by
    have h := pMake (smK false f c [0, 1]) (smT TA tc) g w' (HK.out.below hb) (HT.out.below hb) (by have := HZ.out; have := hb.size; omega) HC.out (by simp [smT])
    rw [sm_make] at h
    exact h
  have S := Lib.hid (HdS.mk (Below.refl g W1) KB.out TB.out (Nat.le_refl _))
  have x1 := KB.out
  have x2 := TB.out
  have e0 := x1.cell 0
  have e1 := x1.cell 1
  have e2 := x1.cell 2
  have e3 := x1.cell 3
  have e4 := x1.cell 4
  have e5 := x1.cell 5
  have e6 := x1.cell 6
  have e7 := x1.cell 7
  have e8 := x1.cell 8
  have e9 := x1.cell 9
  have e10 := x1.cell 10
  simp at e0 e1 e2 e3 e4 e5 e6 e7 e8 e9 e10
  have q0 := x2.cell 0
  have q1 := x2.cell 1
  have q2 := x2.cell 2
  have q3 := x2.cell 3
  simp at q0 q1 q2 q3
  clear x1 x2 KB TB
  go_upto_region 3 with (first
    | (go_at_call 8; refine (HBt.out _ (Below.refl _ _)).mono ?_; rintro e w2 ⟨hb2, A3, c3, rfl, hr3⟩))
  replace S := Lib.hid (S.out.call hb2)
  have R3 : Hid (Reads w2 w2.heap.size 3 A3 4 [.int .i64 1, .int .i64 0, .int .i64 (-1), .int .i64 2, .int .i64 0, .int .i64 1, .int .i64 3, .int .i64 0, .int .i64 1, .int .i64 4, .int .i64 1, .int .i64 0]) := Lib.hid hr3
  have HF3 : Hid (∀ b off, A3 = some ⟨b, off, none⟩ → True) := Lib.hid fun _ _ _ => trivial
  clear hb2 hr3 HBt HF3 e0 e1 e2 e3 e4 e5 e6 e7 e8 e9 e10 q0 q1 q2 q3
  have x1 := S.out.kb
  have x2 := S.out.tb
  have e0 := x1.cell 0
  have e1 := x1.cell 1
  have e2 := x1.cell 2
  have e3 := x1.cell 3
  have e4 := x1.cell 4
  have e5 := x1.cell 5
  have e6 := x1.cell 6
  have e7 := x1.cell 7
  have e8 := x1.cell 8
  have e9 := x1.cell 9
  have e10 := x1.cell 10
  simp at e0 e1 e2 e3 e4 e5 e6 e7 e8 e9 e10
  have q0 := x2.cell 0
  have q1 := x2.cell 1
  have q2 := x2.cell 2
  have q3 := x2.cell 3
  simp at q0 q1 q2 q3
  clear x1 x2
  go_upto_region 4 with (first
    | (go_at_call 11; refine (HMk.out _ S.out.bel).mono ?_; rintro e w3 ⟨hb3, A5, c5, rfl, hr5, hc5⟩))
  replace S := Lib.hid (S.out.call hb3)
  replace R3 := Lib.hid (R3.out.below hb3)
  have HW1 : Hid (g + 1 < w3.heap.size) := Lib.hid S.out.tb.lt
  simp only [smL_len]
  have R5 : Hid (Reads w3 w3.heap.size 5 A5 4 (plcC smL)) := Lib.hid hr5
  have HC5 : Hid (4 ≤ c5) := Lib.hid hc5
  have HB3 : Hid (w2.heap.size ≤ w3.heap.size) := Lib.hid hb3.size
  clear hb3 hr5 hc5 HMk e0 e1 e2 e3 e4 e5 e6 e7 e8 e9 e10 q0 q1 q2 q3
  generalize w2.heap.size = B3 at *
  go_upto_region 5 with (first
    | (go_at_call 19; refine (HS.out true _).mono ?_; rintro e w4 ⟨hb4, f2, c2, TA2, tc2, he, hk2, ht2, hc2⟩
       simp only [smK, smT, KK.flat, TN.flat, manyP, List.length_cons, List.length_nil, Nat.zero_add, Nat.reduceAdd] at he
       subst he))
  obtain ⟨W5, hW5⟩ : ∃ W, (w4.alloc (.cells #[.slice (f2 9) 1 (c2 0), .slice (f2 10) 6 (c2 1), .int .u8 10, .int .i64 0, .int .i64 0, .int .u8 0, .slice none 0 0, .slice none 0 0, .slice none 0 0, .slice (f2 11) 2 (c2 2), .slice (f2 14) 2 (c2 5)] 34)).alloc (.cells #[.int .i64 2, .slice TA2 2 tc2, .int .i64 0, .int .i64 0] 40) = W := ⟨_, rfl⟩
  obtain ⟨l1, l2, l3⟩ := lay2 w4 #[.slice (f2 9) 1 (c2 0), .slice (f2 10) 6 (c2 1), .int .u8 10, .int .i64 0, .int .i64 0, .int .u8 0, .slice none 0 0, .slice none 0 0, .slice none 0 0, .slice (f2 11) 2 (c2 2), .slice (f2 14) 2 (c2 5)] #[.int .i64 2, .slice TA2 2 tc2, .int .i64 0, .int .i64 0] 34 40
  rw [hW5] at l1 l2 l3 ⊢
  have S4 := Lib.hid (S.out.call hb4)
  replace R3 := Lib.hid ((R3.out.below (hb4.mono HB3.out)).below (l1.mono (Nat.le_trans HB3.out hb4.size)))
  replace R5 := Lib.hid ((R5.out.below hb4).below (l1.mono hb4.size))
  have HMm : Hid (∀ w', Below w4.heap.size W5 w' → Calls Try.prog 11 #[.agg #[.slice (f2 9) 1 (c2 0), .slice (f2 10) 6 (c2 1), .int .u8 10, .int .i64 0, .int .i64 0, .int .u8 0, .slice none 0 0, .slice none 0 0, .slice none 0 0, .slice (f2 11) 2 (c2 2), .slice (f2 14) 2 (c2 5)], .agg #[.int .i64 2, .slice TA 2 tc, .int .i64 0, .int .i64 0]] w' (RetPl (400, []) w')) := Lib.hid fun w' hb => by
    have hgl : g ≤ w4.heap.size := by have := S4.out.kb.lt; omega
    have h := pMake (smK true f2 c2 [0, 1]) (smT TA tc) w4.heap.size w' ((hk2.below l1).below hb) (((HT.out.below S4.out.bel).below (l1.mono hgl)).below (hb.mono hgl) |>.more hgl) (Nat.le_trans l1.size hb.size) hc2 (by simp [smT])
    rw [sm_more] at h
    exact h
  have HW4 : Hid (Below w4.heap.size w4 W5) := Lib.hid l1
  have HB4 : Hid (w3.heap.size ≤ w4.heap.size) := Lib.hid hb4.size
  replace S := Lib.hid (S4.out.call l1)
  have x1 := l2
  have x2 := S.out.tb
  have e0 := x1.cell 0
  have e1 := x1.cell 1
  have e2 := x1.cell 2
  have e3 := x1.cell 3
  have e4 := x1.cell 4
  have e5 := x1.cell 5
  have e6 := x1.cell 6
  have e7 := x1.cell 7
  have e8 := x1.cell 8
  have e9 := x1.cell 9
  have e10 := x1.cell 10
  simp at e0 e1 e2 e3 e4 e5 e6 e7 e8 e9 e10
  have q0 := x2.cell 0
  have q1 := x2.cell 1
  have q2 := x2.cell 2
  have q3 := x2.cell 3
  simp at q0 q1 q2 q3
  clear x1 x2 S4 hW5 l1 l2 l3 hb4 hk2 ht2 hc2
  go_upto_region 6 with (first
    | (go_at_call 11; refine (HMm.out _ (Below.refl _ _)).mono ?_; rintro e w6 ⟨hb6, A9, c9, rfl, hr9, -⟩))
  replace S := Lib.hid (S.out.call hb6)
  replace R3 := Lib.hid (R3.out.below (hb6.mono (by have := HB3.out; have := HB4.out; have := HW4.out.size; omega)))
  replace R5 := Lib.hid (R5.out.below (hb6.mono (by have := HB4.out; have := HW4.out.size; omega)))
  have HB6 : Hid (w3.heap.size ≤ w6.heap.size) := Lib.hid (by have := HB4.out; have := HW4.out.size; have := hb6.size; omega)
  clear HMm HW4 HB4 hb6 hr9 e0 e1 e2 e3 e4 e5 e6 e7 e8 e9 e10 q0 q1 q2 q3
  obtain ⟨wq, hwq⟩ : ∃ q, w6.alloc (.cells #[.int .i64 1, .int .i64 0] 3) = q := ⟨_, rfl⟩
  have kq : Below w6.heap.size w6 wq := by rw [← hwq]; exact (Below.refl _ _).alloc (Nat.le_refl _) _
  have NB : Hid (Blk wq w6.heap.size 3 #[.int .i64 1, .int .i64 0]) := Lib.hid (by rw [← hwq]; exact Blk.new _ _ _)
  replace S := Lib.hid (S.out.call kq)
  replace R3 := Lib.hid (R3.out.below (kq.mono (Nat.le_trans HB3.out HB6.out)))
  replace R5 := Lib.hid (R5.out.below (kq.mono HB6.out))
  have HQ : Hid (w6.heap.size + 1 ≤ wq.heap.size) := Lib.hid (by have := NB.out.lt; omega)
  have HG6 : Hid (g < w6.heap.size) := Lib.hid (by
    have h1 := HB6.out
    have h2 := S.out.kb.lt
    have h3 := HZ.out
    have := HW1.out
    omega)
  have x1 := S.out.kb
  have y10 := x1.frozen 10
  have z10 := x1.cell 10
  simp at z10
  clear x1 kq
  go_upto_region 7 with fail
  obtain ⟨gq, hgq⟩ : ∃ q, w6.heap.size = q := ⟨_, rfl⟩
  rw [hgq] at NB HQ HG6 ⊢
  have hrB : w3.heap.size ≤ gq := by rw [← hgq]; exact HB6.out
  have HR3 := HB3.out
  replace R3 := Lib.hid (reads_not (i := 10) R3.out (by decide) S.out.kb (by simp) (.slice (some ⟨gq, 0, none⟩) 2 2))
  replace R5 := Lib.hid (reads_not (i := 10) R5.out (by decide) S.out.kb (by show 11 < 20; decide) (.slice (some ⟨gq, 0, none⟩) 2 2))
  replace NB := Lib.hid (NB.out.far (p := ⟨g, 10, none⟩) (by show gq ≠ g; have := HG6.out; omega) (.slice (some ⟨gq, 0, none⟩) 2 2))
  have Sx := S.out.set_ 10 (.slice (some ⟨gq, 0, none⟩) 2 2)
  simp only [List.setIfInBounds_toArray, List.set_cons_zero, List.set_cons_succ] at Sx
  replace S := Lib.hid Sx
  have HQ7 : Hid (gq + 1 ≤ (wq.setCell ⟨g, 10, none⟩ (.slice (some ⟨gq, 0, none⟩) 2 2)).heap.size) := Lib.hid (by simpa using HQ.out)
  obtain ⟨W7, hW7⟩ : ∃ q, wq.setCell ⟨g, 10, none⟩ (.slice (some ⟨gq, 0, none⟩) 2 2) = q := ⟨_, rfl⟩
  rw [hW7] at S R3 R5 NB HQ7 ⊢
  clear Sx y10 z10 hW7 hwq HQ
  have HM7 : Hid (∀ w', Below W7.heap.size W7 w' → Calls Try.prog 11 #[.agg #[.slice (f 9) 1 (c 0), .slice (f 10) 6 (c 1), .int .u8 10, .int .i64 0, .int .i64 0, .int .u8 0, .slice none 0 0, .slice none 0 0, .slice none 0 0, .slice (f 11) 2 (c 2), .slice (some ⟨gq, 0, none⟩) 2 2], .agg #[.int .i64 2, .slice TA 2 tc, .int .i64 0, .int .i64 0]] w' (RetPl (400, []) w')) := Lib.hid fun w' hb => by
    have hgl : g ≤ W7.heap.size := by have := S.out.kb.lt; omega
    have hk := smK_with (l' := [1, 0]) ((HK.out.below S.out.bel).more hgl) (reads_blk (n := 2) (size := 1) NB.out rfl) (len_ok rfl) (fun x hx => by simp at hx; rcases hx with rfl | rfl <;> exact ⟨by decide, by decide⟩)
    have h := pMake _ (smT TA tc) W7.heap.size w' (hk.below hb) (((HT.out.below S.out.bel).more hgl).below hb) hb.size (Nat.le_refl 2) (by simp [smT])
    rw [sm_turned] at h
    exact h
  have x1 := S.out.kb
  have x2 := S.out.tb
  have e0 := x1.cell 0
  have e1 := x1.cell 1
  have e2 := x1.cell 2
  have e3 := x1.cell 3
  have e4 := x1.cell 4
  have e5 := x1.cell 5
  have e6 := x1.cell 6
  have e7 := x1.cell 7
  have e8 := x1.cell 8
  have e9 := x1.cell 9
  have e10 := x1.cell 10
  simp at e0 e1 e2 e3 e4 e5 e6 e7 e8 e9 e10
  have q0 := x2.cell 0
  have q1 := x2.cell 1
  have q2 := x2.cell 2
  have q3 := x2.cell 3
  simp at q0 q1 q2 q3
  clear x1 x2
  go_upto_region 8 with (first
    | (go_at_call 11; refine (HM7.out _ (Below.refl _ _)).mono ?_; rintro e w8 ⟨hb8, A11, c11, rfl, -, -⟩))
  replace S := Lib.hid (S.out.call hb8)
  replace R3 := Lib.hid (R3.out.below (hb8.mono (by have := HQ7.out; omega)))
  replace R5 := Lib.hid (R5.out.below (hb8.mono (by have := HQ7.out; omega)))
  have HB8 : Hid (w3.heap.size ≤ w8.heap.size) := Lib.hid (by have := HQ7.out; have := hb8.size; omega)
  have HG8 : Hid (g < w8.heap.size) := Lib.hid S.out.kb.lt
  clear HM7 hb8 NB HQ7 e0 e1 e2 e3 e4 e5 e6 e7 e8 e9 e10 q0 q1 q2 q3
  obtain ⟨wr, hwr⟩ : ∃ q, w8.alloc (.cells #[.int .i64 0, .int .i64 1] 3) = q := ⟨_, rfl⟩
  have kr : Below w8.heap.size w8 wr := by rw [← hwr]; exact (Below.refl _ _).alloc (Nat.le_refl _) _
  have NB : Hid (Blk wr w8.heap.size 3 #[.int .i64 0, .int .i64 1]) := Lib.hid (by rw [← hwr]; exact Blk.new _ _ _)
  replace S := Lib.hid (S.out.call kr)
  replace R3 := Lib.hid (R3.out.below (kr.mono (by have := HB8.out; omega)))
  replace R5 := Lib.hid (R5.out.below (kr.mono HB8.out))
  obtain ⟨gr, hgr⟩ : ∃ q, w8.heap.size = q := ⟨_, rfl⟩
  rw [hgr] at NB HG8
  have x1 := S.out.kb
  have y10 := x1.frozen 10
  have z10 := x1.cell 10
  simp at z10
  clear x1
  replace R3 := Lib.hid (reads_not (i := 10) R3.out (by decide) S.out.kb (by simp) (.slice (some ⟨gr, 0, none⟩) 2 2))
  replace R5 := Lib.hid (reads_not (i := 10) R5.out (by decide) S.out.kb (by show 11 < 20; decide) (.slice (some ⟨gr, 0, none⟩) 2 2))
  replace NB := Lib.hid (NB.out.far (p := ⟨g, 10, none⟩) (by show gr ≠ g; have := HG8.out; omega) (.slice (some ⟨gr, 0, none⟩) 2 2))
  have Sx := S.out.set_ 10 (.slice (some ⟨gr, 0, none⟩) 2 2)
  simp only [List.setIfInBounds_toArray, List.set_cons_zero, List.set_cons_succ] at Sx
  replace S := Lib.hid Sx
  have HW3 : Hid (w3.heap.size ≤ (wr.setCell ⟨g, 10, none⟩ (.slice (some ⟨gr, 0, none⟩) 2 2)).heap.size) := Lib.hid (by have := HB8.out; have := kr.size; simpa using (by omega : w3.heap.size ≤ wr.heap.size))
  obtain ⟨W9, hW9⟩ : ∃ q, wr.setCell ⟨g, 10, none⟩ (.slice (some ⟨gr, 0, none⟩) 2 2) = q := ⟨_, rfl⟩
  rw [hW9] at S R3 R5 NB HW3
  have HCk : Hid (∀ w', Below W9.heap.size W9 w' → Calls Try.prog 14 #[.agg #[.slice (f 9) 1 (c 0), .slice (f 10) 6 (c 1), .int .u8 10, .int .i64 0, .int .i64 0, .int .u8 0, .slice none 0 0, .slice none 0 0, .slice none 0 0, .slice (f 11) 2 (c 2), .slice (some ⟨gr, 0, none⟩) 2 2], .agg #[.int .i64 2, .slice TA 2 tc, .int .i64 0, .int .i64 0], .slice A5 4 c5] w' (RetV (.bool true) w')) := Lib.hid fun w' hb => by
    have hgl : g ≤ W9.heap.size := by have := S.out.kb.lt; omega
    have hk := smK_with (l' := [0, 1]) ((HK.out.below S.out.bel).more hgl) (reads_blk (n := 2) (size := 1) NB.out rfl) (len_ok rfl) (fun x hx => by simp at hx; rcases hx with rfl | rfl <;> exact ⟨by decide, by decide⟩)
    have h := pCheck _ (smT TA tc) smL A5 c5 W9.heap.size w' (hk.below hb) (((HT.out.below S.out.bel).more hgl).below hb) hb.size (Nat.le_refl 2) (by simp [smT]) ((R5.out.more HW3.out).below hb) smL_ok (by rw [smL_len]; omega)
    rw [sm_check] at h
    exact h
  obtain ⟨b3, o3, hA3, ⟨-, hl3⟩, h3⟩ := far_of_blk R3.out (by decide) (by decide) S.out.kb (by simp)
  obtain ⟨b5, o5, hA5, ⟨-, hl5⟩, h5⟩ := far_of_blk R5.out (by decide) (by decide) S.out.kb (by show 11 < 20; decide)
  subst hA3 hA5
  have HCs : Hid (∀ w', Below W9.heap.size W9 w' → Calls Try.prog 14 #[.agg #[.slice (f 9) 1 (c 0), .slice (f 10) 6 (c 1), .int .u8 10, .int .i64 0, .int .i64 0, .int .u8 0, .slice none 0 0, .slice none 0 0, .slice none 0 0, .slice (f 11) 2 (c 2), .slice (some ⟨gr, 0, none⟩) 2 2], .agg #[.int .i64 2, .slice TA 2 tc, .int .i64 0, .int .i64 0], .slice (some ⟨b5, o5 + 5, none⟩) 3 (c5 - 1)] w' (RetV (.bool false) w')) := Lib.hid fun w' hb => by
    have hgl : g ≤ W9.heap.size := by have := S.out.kb.lt; omega
    have hk := smK_with (l' := [0, 1]) ((HK.out.below S.out.bel).more hgl) (reads_blk (n := 2) (size := 1) NB.out rfl) (len_ok rfl) (fun x hx => by simp at hx; rcases hx with rfl | rfl <;> exact ⟨by decide, by decide⟩)
    have hcut := R5.out.cut (k := 1) (cap := c5) (by decide) HC5.out
    rw [if_neg (by have := HC5.out; omega)] at hcut
    have h := pCheck _ (smT TA tc) (smL.drop 1) (some ⟨b5, o5 + 5, none⟩) (c5 - 1) W9.heap.size w' (hk.below hb) (((HT.out.below S.out.bel).more hgl).below hb) hb.size (Nat.le_refl 2) (by simp [smT]) ((hcut.more HW3.out).below hb) smL_ok1 (by show 3 ≤ _; omega)
    rw [sm_short] at h
    exact h
  have x1 := S.out.kb
  have x2 := S.out.tb
  have e0 := x1.cell 0
  have e1 := x1.cell 1
  have e2 := x1.cell 2
  have e3 := x1.cell 3
  have e4 := x1.cell 4
  have e5 := x1.cell 5
  have e6 := x1.cell 6
  have e7 := x1.cell 7
  have e8 := x1.cell 8
  have e9 := x1.cell 9
  have e10 := x1.cell 10
  simp at e0 e1 e2 e3 e4 e5 e6 e7 e8 e9 e10
  have q0 := x2.cell 0
  have q1 := x2.cell 1
  have q2 := x2.cell 2
  have q3 := x2.cell 3
  simp at q0 q1 q2 q3
  have a0 := h3 0 _ rfl
  have a1 := h3 1 _ rfl
  have a2 := h3 2 _ rfl
  have a9 := h3 9 _ rfl
  have a10 := h3 10 _ rfl
  have a11 := h3 11 _ rfl
  have p3 := h5 3 _ rfl
  have p4 := h5 4 _ rfl
  have p6 := h5 6 _ rfl
  have p7 := h5 7 _ rfl
  have p13 := h5 13 _ rfl
  have p14 := h5 14 _ rfl
  have p16 := h5 16 _ rfl
  have p17 := h5 17 _ rfl
  have HKF : Hid (Below w.heap.size w W9) := Lib.hid (KW.out.trans (S.out.bel.mono HG.out))
  have t1 : tripEq (1, 0, -1) (1, 0, -1) = true := rfl
  have t2 : tripEq (4, 1, 0) (4, 1, 0) = true := rfl
  have t3 : portEq (-1) 0 (-1) 0 = true := rfl
  have t4 : portEq 0 1 0 1 = true := rfl
  have t5 : portEq 1 0 1 0 = true := rfl
  have b5' := HC5.out
  have hc5 : (1 : Int) ≤ (c5 : Int) := by omega
  have hc1 : ¬ c5 = 1 := by omega
  have z3 : b3 < W9.heap.size := by have := HW3.out; have := HB3.out; omega
  have z5 : b5 < W9.heap.size := by have := HW3.out; omega
  have zg : g < W9.heap.size := S.out.kb.lt
  have zt : g + 1 < W9.heap.size := S.out.tb.lt
  clear x1 x2 h3 h5 R3 R5 NB HK HT HS kr Sx HC HR3 b5' HB8 HB6 HB3 HW1 HG6 HG8 hrB hl3 hl5 hgq HW3 HZ
  go_upto_region 9 with fail
  clear y10 z10 hwr hgr hW9
  obtain ⟨ι, Fm, i0', h0', hFb, hcl⟩ := fam_below W9
  have HF : Hid (∀ i b off u, b < W9.heap.size → W9.cell? ⟨b, off, none⟩ = some u → (Fm i).cell? ⟨b, off, none⟩ = some u) := Lib.hid fun i b off u hb h => ((hFb i).cell (p := ⟨b, off, none⟩) hb).trans h
  have E0 := fun i => HF.out i _ _ _ zg e0
  have E1 := fun i => HF.out i _ _ _ zg e1
  have E2 := fun i => HF.out i _ _ _ zg e2
  have E3 := fun i => HF.out i _ _ _ zg e3
  have E4 := fun i => HF.out i _ _ _ zg e4
  have E5 := fun i => HF.out i _ _ _ zg e5
  have E6 := fun i => HF.out i _ _ _ zg e6
  have E7 := fun i => HF.out i _ _ _ zg e7
  have E8 := fun i => HF.out i _ _ _ zg e8
  have E9 := fun i => HF.out i _ _ _ zg e9
  have E10 := fun i => HF.out i _ _ _ zg e10
  have Q0 := fun i => HF.out i _ _ _ zt q0
  have Q1 := fun i => HF.out i _ _ _ zt q1
  have Q2 := fun i => HF.out i _ _ _ zt q2
  have Q3 := fun i => HF.out i _ _ _ zt q3
  have X0 := fun i => HF.out i _ _ _ z3 a0
  have X1 := fun i => HF.out i _ _ _ z3 a1
  have X2 := fun i => HF.out i _ _ _ z3 a2
  have X9 := fun i => HF.out i _ _ _ z3 a9
  have X10 := fun i => HF.out i _ _ _ z3 a10
  have X11 := fun i => HF.out i _ _ _ z3 a11
  have Y3 := fun i => HF.out i _ _ _ z5 p3
  have Y4 := fun i => HF.out i _ _ _ z5 p4
  have Y6 := fun i => HF.out i _ _ _ z5 p6
  have Y7 := fun i => HF.out i _ _ _ z5 p7
  have Y13 := fun i => HF.out i _ _ _ z5 p13
  have Y14 := fun i => HF.out i _ _ _ z5 p14
  have Y16 := fun i => HF.out i _ _ _ z5 p16
  have Y17 := fun i => HF.out i _ _ _ z5 p17
  simp only [Nat.add_zero] at X0
  have HC1 := Lib.hid (fun i => HCk.out (Fm i) (hFb i))
  have HC2 := Lib.hid (fun i => HCs.out (Fm i) (hFb i))
  clear e0 e1 e2 e3 e4 e5 e6 e7 e8 e9 e10 q0 q1 q2 q3 a0 a1 a2 a9 a10 a11 p3 p4 p6 p7 p13 p14 p16 p17 zg zt z3 z5 HF HCk HCs
  haveI : Nonempty ι := ⟨i0'⟩
  refine wp_region_quiet_fam Fm i0' h0' (by kernel_rfl) (by kernel_rfl) ?_
  simp only [List.append_eq, List.cons_append, List.nil_append]
  repeat (go_big_quiet_step (first
    | (go_at_call 14; (with_reducible refine (HC1.out _).mono ?_); rintro e wa ⟨rfl, hba⟩; exact ⟨rfl, hcl _ _ hba⟩)
    | (go_at_call 14; (with_reducible refine (HC2.out _).mono ?_); rintro e wa ⟨rfl, hba⟩; exact ⟨rfl, hcl _ _ hba⟩)))
  refine wpQuiet_nil ?_
  intro i
  go_wp2
  go_ret
  exact ⟨rfl, HKF.out.trans ((hFb i).mono HKF.out.size)⟩
end Go.Proofs.Ytekamebpjjkifaa
