/- The law PlaceFits where placings are made, walked. -/
import Derived.Test.YtekamebpjjkifaaHL3
import Derived.Test.YtekamebpjjkifaaHK42
namespace Go.Proofs.Ytekamebpjjkifaa
open Go.RowKit Go.Maps
set_option linter.unusedSimpArgs false
set_option linter.unusedVariables false

/-- A block whose first cells are known. -/
def RowC (w : World) (g : Nat) (t : TypeId) (xs : List Value) : Prop := ∃ cur, Blk w g t cur ∧ xs.length ≤ cur.size ∧ cur.toList.take xs.length = xs
section
variable {w w' : World} {g : Nat} {t : TypeId} {xs : List Value}
theorem RowC.of_own {B n c size : Nat} (h : w.ownsRow B t size (.slice (some ⟨g, 0, none⟩) n c) n xs) : RowC w g t xs := by
  have hl := h.1
  rcases h.2 with ⟨e, _⟩ | ⟨g', cap, cur, e, hb, hg, hc, hm, hs, ht⟩
  · cases e
  · injection e with e1 e2 e3
    injection e1 with e1
    injection e1 with e1
    subst e1 e3
    refine ⟨cur, hg, ?_, ?_⟩
    · rw [hs, hl]; exact Nat.mul_le_mul_right _ hc
    · rw [hl]; exact ht
theorem RowC.lt (h : RowC w g t xs) : g < w.heap.size := by
  obtain ⟨cur, hb, _⟩ := h
  exact hb.lt
theorem RowC.drewN (h : RowC w g t xs) (k : Nat) : RowC (w.drewN k) g t xs := h
theorem RowC.drew (h : RowC w g t xs) : RowC w.drew g t xs := h
theorem RowC.alloc (h : RowC w g t xs) (o : Obj) : RowC (w.alloc o) g t xs := by
  obtain ⟨cur, hb, h1⟩ := h
  exact ⟨cur, hb.alloc o, h1⟩
theorem RowC.call (h : RowC w g t xs) (k : Below w.heap.size w w') : RowC w' g t xs := by
  obtain ⟨cur, hb, h1⟩ := h
  exact ⟨cur, hb.call k, h1⟩
theorem RowC.grown {row : Option Nat} (h : RowC w g t xs) (hb : w.grownBy w' row) (hg : some g ≠ row) : RowC w' g t xs := by
  obtain ⟨cur, hc, h1⟩ := h
  exact ⟨cur, hc.grown hb hg, h1⟩
theorem RowC.far (h : RowC w g t xs) {p : Addr} (hp : g ≠ p.block) (u : Value) : RowC (w.setCell p u) g t xs := by
  obtain ⟨cur, hc, h1⟩ := h
  exact ⟨cur, hc.far hp u, h1⟩
theorem RowC.reads {n size : Nat} (h : RowC w g t xs) (hn : xs.length = n * size) : Reads w w.heap.size size (some ⟨g, 0, none⟩) n xs := by
  obtain ⟨cur, hb, h1, h2⟩ := h
  refine ⟨hn, fun _ => ⟨_, rfl, hb.lt, fun j u hu => ?_⟩⟩
  have hadd : (⟨g, 0, none⟩ : Addr).add j = ⟨g, j, none⟩ := by unfold Addr.add; split <;> simp_all
  have hj := (List.getElem?_eq_some_iff.1 hu).1
  rw [hadd, hb.cell j]
  rw [← h2, List.getElem?_take_of_lt hj] at hu
  simpa using hu
theorem RowC.cell (h : RowC w g t xs) {j : Nat} {u : Value} (hu : xs[j]? = some u) : w.cell? ⟨g, j, none⟩ = some u := by
  obtain ⟨cur, hb, h1, h2⟩ := h
  have hj := (List.getElem?_eq_some_iff.1 hu).1
  rw [hb.cell j]
  rw [← h2, List.getElem?_take_of_lt hj] at hu
  simpa using hu
theorem RowC.frozen (h : RowC w g t xs) (i : Nat) : w.frozen? ⟨g, i, none⟩ = false := by
  obtain ⟨cur, hb, _⟩ := h
  exact hb.frozen i
theorem RowC.set (h : RowC w g t xs) (i : Nat) (u : Value) : RowC (w.setCell ⟨g, i, none⟩ u) g t (xs.set i u) := by
  obtain ⟨cur, hb, h1, h2⟩ := h
  refine ⟨_, hb.set_ i u, by simpa using h1, ?_⟩
  rw [List.length_set, Array.toList_setIfInBounds, List.take_set, h2]
end

/-- A placing whose second port is stored anew. -/
theorem plcC_set : ∀ (l : List Plc) (k : Nat) (y : Plc) (p : Int × Int), l[k]? = some y → ((plcC l).set (k * 5 + 3) (.int .i64 p.1)).set (k * 5 + 4) (.int .i64 p.2) = plcC (l.set k ⟨y.c, y.o, p⟩)
  | [], k, y, p, h => by simp at h
  | z :: r, 0, y, p, h => by
    simp at h; subst h
    simp [plcC, Plc.cells]
  | z :: r, k + 1, y, p, h => by
    have ih := plcC_set r k y p (by simpa using h)
    have e : plcC (z :: r) = z.cells.toList ++ plcC r := by simp [plcC]
    have e2 : plcC ((z :: r).set (k + 1) ⟨y.c, y.o, p⟩) = z.cells.toList ++ plcC (r.set k ⟨y.c, y.o, p⟩) := by simp [plcC]
    have hz : z.cells.toList.length = 5 := rfl
    rw [e, e2, ← ih]
    rw [List.set_append_right _ _ (by rw [hz]; omega), List.set_append_right _ _ (by rw [hz]; omega), hz, show (k + 1) * 5 + 3 - 5 = k * 5 + 3 by omega, show (k + 1) * 5 + 4 - 5 = k * 5 + 4 by omega]
theorem plcC_len (l : List Plc) : (plcC l).length = l.length * 5 := by
  induction l with
  | nil => rfl
  | cons x r ih =>
    have e : plcC (x :: r) = x.cells.toList ++ plcC r := by simp [plcC]
    rw [e, List.length_append, ih, List.length_cons]
    show 5 + _ = _
    omega
theorem plcC_at : ∀ {l : List Plc} {k : Nat} {y : Plc}, l[k]? = some y → (plcC l)[k * 5 + 3]? = some (.int .i64 y.i.1) ∧ (plcC l)[k * 5 + 4]? = some (.int .i64 y.i.2)
  | [], k, y, h => by simp at h
  | z :: r, 0, y, h => by
    simp at h; subst h
    exact ⟨rfl, rfl⟩
  | z :: r, k + 1, y, h => by
    have ih := plcC_at (l := r) (k := k) (y := y) (by simpa using h)
    have e : plcC (z :: r) = z.cells.toList ++ plcC r := by simp [plcC]
    have hz : z.cells.toList.length = 5 := rfl
    rw [e, List.getElem?_append_right (by rw [hz]; omega), List.getElem?_append_right (by rw [hz]; omega), hz, show (k + 1) * 5 + 3 - 5 = k * 5 + 3 by omega, show (k + 1) * 5 + 4 - 5 = k * 5 + 4 by omega]
    exact ih
theorem plcC_one (l : List Plc) : ∀ u ∈ plcC l, u.oneCell' = true := by
  intro u hu
  unfold plcC at hu
  obtain ⟨x, hx, hu⟩ := List.mem_flatMap.1 hu
  simp [Plc.cells] at hu
  rcases hu with rfl | rfl | rfl | rfl | rfl <;> rfl
theorem plc_infoL : (Try.prog.info? 56).map (fun i => (i.zero, i.size, i.bytes)) = some (some (.agg #[.int .i64 0, .int .i64 0, .int .i64 0, .int .i64 0, .int .i64 0]), 5, 40) := by kernel_rfl
/-- While the placings are looked at. -/
structure FtS (w Wz W : World) (k : KK) (t : TN) : Prop where
  s : MkS w W k t
  bz : Below Wz.heap.size Wz W
theorem FtS.call {w Wz W W1 : World} {k : KK} {t : TN} (h : FtS w Wz W k t) (hb : Below W.heap.size W W1) : FtS w Wz W1 k t := ⟨h.s.call hb, h.bz.trans (hb.mono h.bz.size)⟩
/-- Blocks beyond those that lay there may be written. -/
theorem FtS.deep {w Wz W W1 : World} {k : KK} {t : TN} (h : FtS w Wz W k t) (hz : w.heap.size + 2 ≤ Wz.heap.size) (hb : Below Wz.heap.size W W1) : FtS w Wz W1 k t :=
  ⟨⟨h.s.bel.trans (hb.mono (by omega)), h.s.kb.below hb (by omega), h.s.tb.below hb (by omega)⟩, h.bz.trans hb⟩
set_option maxRecDepth 100000 in
set_option maxHeartbeats 16000000 in
theorem lPlaceFits_ok (k : KK) (t : TN) (l : List Plc) (LA : Option Addr) (lc : Nat) (B : Nat) (w : World) (hk : k.In w B) (ht : t.In w B) (hl : Reads w B 5 LA l.length (plcC l)) (hB : B ≤ w.heap.size) (hcap : k.procs.length ≤ k.cp) (hll : l.length ≤ 140737488355328) (hlo : ∀ y ∈ l, okPt y.o ∧ okPt y.i) (he : (makeQ k t).1 = 0) :
    Calls Try.prog 4 #[.agg k.flat, .agg t.flat, .slice LA l.length lc] w (RetV (.bool true) w) := by
  obtain ⟨W0, hW0⟩ : ∃ W, (w.alloc (.cells k.flat 34)).alloc (.cells t.flat 40) = W := ⟨_, rfl⟩
  obtain ⟨l1, l2, l3⟩ := lay2 w k.flat t.flat 34 40
  rw [hW0] at l1 l2 l3
  have S0 := Lib.hid (MkS.mk l1 l2 l3)
  have HL := Lib.hid (fun w1 (hb : Below w.heap.size w w1) => lLarge40 k t B w1 (hk.below (hb.mono hB)) (Nat.le_trans hB hb.size))
  have HM := Lib.hid (fun w1 (hb : Below w.heap.size w w1) (hw : t.ws.length ≤ 40) => pMake k t B w1 (hk.below (hb.mono hB)) (ht.below (hb.mono hB)) (Nat.le_trans hB hb.size) hcap (by omega))
  have HBt := Lib.hid (fun w1 (hb : Below w.heap.size w w1) => pBetween k B w1 (hk.below (hb.mono hB)) (Nat.le_trans hB hb.size) hcap)
  have HP := Lib.hid (fun (a b : Int) w1 (hb : Below w.heap.size w w1) (hw : t.ws.length ≤ 40) => tPeer t.N t.hn t.hl a b t.A t.ws.length t.c t.ws w1 ((ht.below (hb.mono hB)).top (Nat.le_trans hB hb.size)) (by omega))
  have HH := Lib.hid (fun w1 => lHead40 w1)
  obtain ⟨hbl, hchk⟩ := check_made he
  obtain ⟨-, -, hb0, -⟩ := make_good he
  have HAT := Lib.hid (fun j x y hx hy => made_at (k := k) (t := t) he (j := j) (x := x) (y := y) hx hy)
  have HUP := Lib.hid (fun i j y z hy hz hij => made_up (k := k) (t := t) he (i := i) (j := j) (y := y) (z := z) hy hz hij)
  have HKI := Lib.hid (fun x hx => (chanF hb0).kind x hx)
  have hsm := make_short k t
  have hmo := made_okPt he
  have HCm : Hid (∀ (A : Option Addr) (c B1 : Nat) (w1 : World), Below w.heap.size w w1 → t.ws.length ≤ 40 → B1 ≤ w1.heap.size → Reads w1 B1 5 A (makeQ k t).2.length (plcC (makeQ k t).2) → Calls Try.prog 14 #[.agg k.flat, .agg t.flat, .slice A (makeQ k t).2.length c] w1 (RetV (.bool true) w1)) := Lib.hid fun A c B1 w1 hb hw h1 hr => by
    have h := pCheck k t (makeQ k t).2 A c w1.heap.size w1 ((hk.below (hb.mono hB)).more (Nat.le_trans hB hb.size)) ((ht.below (hb.mono hB)).more (Nat.le_trans hB hb.size)) (Nat.le_refl _) hcap (by omega) (hr.more h1) hmo (by omega)
    rw [hchk] at h
    exact h
  have HCo : Hid (∀ (j : Nat) (y : Plc), (makeQ k t).2[j]? = some y → 1 < y.c → ∀ (A : Option Addr) (c : Nat) (w1 : World), Below w.heap.size w w1 → t.ws.length ≤ 40 → Reads w1 w1.heap.size 5 A (makeQ k t).2.length (plcC ((makeQ k t).2.set j ⟨y.c, y.o, y.o⟩)) → Calls Try.prog 14 #[.agg k.flat, .agg t.flat, .slice A (makeQ k t).2.length c] w1 (RetV (.bool false) w1)) := Lib.hid fun j y hy hc A c w1 hb hw hr => by
    have h := pCheck k t ((makeQ k t).2.set j ⟨y.c, y.o, y.o⟩) A c w1.heap.size w1 ((hk.below (hb.mono hB)).more (Nat.le_trans hB hb.size)) ((ht.below (hb.mono hB)).more (Nat.le_trans hB hb.size)) (Nat.le_refl _) hcap (by omega) (by rw [List.length_set]; exact hr) (fun z hz => by
      rcases List.mem_or_eq_of_mem_set hz with hz | rfl
      · exact hmo z hz
      · have := (hmo y (List.mem_of_getElem? hy)).1
        exact ⟨this, this⟩) (by rw [List.length_set]; omega)
    rw [check_back he hy hc, List.length_set] at h
    exact h
  generalize makeQ k t = Q at *
  generalize betweenQ k = R at *
  obtain ⟨er, d⟩ := Q
  obtain ⟨eb, bl⟩ := R
  simp only at he hb0 hbl hsm
  subst he hb0
  obtain ⟨n, hn⟩ : ∃ q, d.length = q := ⟨_, rfl⟩
  rw [hn] at hbl hsm
  have HN := Lib.hid hn
  have HNB := Lib.hid hbl
  have HNS := Lib.hid hsm
  obtain ⟨ln, hln⟩ : ∃ q, l.length = q := ⟨_, rfl⟩
  obtain ⟨nw, hnw⟩ : ∃ q, t.ws.length = q := ⟨_, rfl⟩
  obtain ⟨i0, hi0, hz0, hz1, hz2⟩ := info_parts plc_infoL
  simp only [KK.flat, TN.flat, hln, hnw, hn] at l2 l3 hW0 HL HM HBt HCm HCo HP ⊢
  have e0 := l2.cell 0
  have e1 := l2.cell 1
  have e2 := l2.cell 2
  have e3 := l2.cell 3
  have e4 := l2.cell 4
  have e5 := l2.cell 5
  have e6 := l2.cell 6
  have e7 := l2.cell 7
  have e8 := l2.cell 8
  have e9 := l2.cell 9
  have e10 := l2.cell 10
  simp at e0 e1 e2 e3 e4 e5 e6 e7 e8 e9 e10
  have q0 := l3.cell 0
  have q1 := l3.cell 1
  have q2 := l3.cell 2
  have q3 := l3.cell 3
  simp at q0 q1 q2 q3
  clear l1 l2 l3 hk ht hl hB hln hll hlo hcap hmo hchk hsm
  by_cases hbig : 80 < ln
  · have yl : (80 : Int) < (ln : Int) := by omega
    clear hbig HM HBt HCm HCo HP
    go_enter Try.func4, Try.ntmps4
    go_wp2_with (first
      | (go_at_call 6; (with_reducible refine (HL.out _ S0.out.bel).mono ?_); rintro e1 w1 ⟨hb1, big, rfl, -⟩)
      | (go_at_call 7; (with_reducible refine (HH.out _).mono ?_); rintro e2 w2 ⟨rfl, hb2⟩))
    all_goals go_ret
    all_goals exact ⟨rfl, (S0.out.bel.trans (hb1.mono S0.out.bel.size)).trans (hb2.mono (Nat.le_trans S0.out.bel.size hb1.size))⟩
  · have yl : ¬ (80 : Int) < (ln : Int) := by omega
    have yn : ((n : Int) != (n : Int)) = false := by simp
    clear hbig
    go_enter Try.func4, Try.ntmps4
    go_wp2_with (first
      | (go_at_call 6; (with_reducible refine (HL.out _ S0.out.bel).mono ?_); rintro e1 w1 ⟨hb1, big, rfl, hb0⟩
         have HB0 : Hid (¬ big = true → nw ≤ 40) := Lib.hid fun h => by rw [← hnw]; exact hb0 (by simpa using h)
         have S := Lib.hid (S0.out.call hb1)
         have x1 := S.out.kb
         have x2 := S.out.tb
         simp only [KK.flat, TN.flat, hnw] at x1 x2
         have f0 := x1.cell 0
         have f1 := x1.cell 1
         have f2 := x1.cell 2
         have f3 := x1.cell 3
         have f4 := x1.cell 4
         have f5 := x1.cell 5
         have f6 := x1.cell 6
         have f7 := x1.cell 7
         have f8 := x1.cell 8
         have f9 := x1.cell 9
         have f10 := x1.cell 10
         simp at f0 f1 f2 f3 f4 f5 f6 f7 f8 f9 f10
         have p0 := x2.cell 0
         have p1 := x2.cell 1
         have p2 := x2.cell 2
         have p3 := x2.cell 3
         simp at p0 p1 p2 p3
         clear hb1 x1 x2 hb0)
      | (go_at_call 7; (with_reducible refine (HH.out _).mono ?_); rintro e2 w2 ⟨rfl, hb2⟩
         have K := Lib.hid (S.out.bel.trans (hb2.mono S.out.bel.size)))
      | (go_at_call 11; (with_reducible refine (HM.out _ S.out.bel (HB0.out (by assumption))).mono ?_); rintro e2 w2 ⟨hb2, A2, c2, rfl, hr2, -⟩
         simp only [hn] at hr2 ⊢
         have HNW := Lib.hid (HB0.out (by assumption))
         replace S := Lib.hid (S.out.call hb2)
         have R2 := Lib.hid hr2
         have x1 := S.out.kb
         have x2 := S.out.tb
         simp only [KK.flat, TN.flat, hnw] at x1 x2
         clear f0 f1 f2 f3 f4 f5 f6 f7 f8 f9 f10 p0 p1 p2 p3
         have f0 := x1.cell 0
         have f1 := x1.cell 1
         have f2 := x1.cell 2
         have f3 := x1.cell 3
         have f4 := x1.cell 4
         have f5 := x1.cell 5
         have f6 := x1.cell 6
         have f7 := x1.cell 7
         have f8 := x1.cell 8
         have f9 := x1.cell 9
         have f10 := x1.cell 10
         simp at f0 f1 f2 f3 f4 f5 f6 f7 f8 f9 f10
         have p0 := x2.cell 0
         have p1 := x2.cell 1
         have p2 := x2.cell 2
         have p3 := x2.cell 3
         simp at p0 p1 p2 p3
         clear hb2 x1 x2 hr2)
      | (go_at_call 8; (with_reducible refine (HBt.out _ S.out.bel).mono ?_); rintro e2 w3 ⟨hb2, A3, c3, rfl, hr3⟩
         simp only [hbl] at hr3 ⊢
         replace S := Lib.hid (S.out.call hb2)
         have R3 := Lib.hid hr3
         replace R2 := Lib.hid (R2.out.below hb2)
         have HB2 := Lib.hid hb2.size
         have x1 := S.out.kb
         have x2 := S.out.tb
         simp only [KK.flat, TN.flat, hnw] at x1 x2
         clear f0 f1 f2 f3 f4 f5 f6 f7 f8 f9 f10 p0 p1 p2 p3
         have f0 := x1.cell 0
         have f1 := x1.cell 1
         have f2 := x1.cell 2
         have f3 := x1.cell 3
         have f4 := x1.cell 4
         have f5 := x1.cell 5
         have f6 := x1.cell 6
         have f7 := x1.cell 7
         have f8 := x1.cell 8
         have f9 := x1.cell 9
         have f10 := x1.cell 10
         simp at f0 f1 f2 f3 f4 f5 f6 f7 f8 f9 f10
         have p0 := x2.cell 0
         have p1 := x2.cell 1
         have p2 := x2.cell 2
         have p3 := x2.cell 3
         simp at p0 p1 p2 p3
         clear hb2 x1 x2 hr3)
      | (go_at_call 14; (with_reducible refine (HCm.out _ _ _ _ S.out.bel HNW.out HB2.out R2.out).mono ?_); rintro e2 w4 ⟨rfl, hb2⟩
         replace S := Lib.hid (S.out.call hb2)
         replace R2 := Lib.hid (R2.out.below (hb2.mono HB2.out))
         replace R3 := Lib.hid (R3.out.below hb2)
         have HB4 := Lib.hid hb2.size
         clear hb2 f0 f1 f2 f3 f4 f5 f6 f7 f8 f9 f10 p0 p1 p2 p3))
    · go_ret
      exact ⟨rfl, K.out⟩
    have F0 : Hid (FtS w w4 w4 k t) := Lib.hid ⟨S.out, Below.refl _ _⟩
    have HZ4 : Hid (w.heap.size + 2 ≤ w4.heap.size) := Lib.hid (by have := S.out.tb.lt; omega)
    have HB24 : Hid (w2.heap.size ≤ w4.heap.size) := Lib.hid (Nat.le_trans HB2.out HB4.out)
    clear HB0 HL HM HBt HCm HB2 e0 e1 e2 e3 e4 e5 e6 e7 e8 e9 e10 q0 q1 q2 q3 hW0 S0 S yn
    go_loopw [11] (fun i W => ∃ j : Nat, j ≤ n ∧ i = .int .i64 j ∧ Hid (FtS w w4 W k t)) (fun i _ => n - (intOf i).toNat)
    case atStart => exact ⟨0, Nat.zero_le _, rfl, F0⟩
    case round =>
      clear F0
      obtain ⟨j, hj, rfl, F⟩ := hrel
      by_cases hlt : j < n
      · have hltI : (j : Int) < n := by omega
        obtain ⟨b7, o7, y, hA7, hb7, hy, hym, c0, c1, c2', c3', c4⟩ := plcs_at (R2.out.below (F.out.bz.mono HB24.out)) HN.out hlt
        obtain ⟨b9, o9, x, hA9, hb9, hx, a0, a1, a2⟩ := trips_at (R3.out.below (F.out.bz.mono HB4.out)) HNB.out hlt
        have hat := HAT.out j x y hx hy
        have hki := HKI.out x (List.mem_of_getElem? hx)
        have HAc := Lib.hid hat
        have HKc := Lib.hid hki
        have HY := Lib.hid hy
        subst hA7 hA9
        obtain ⟨q, hq⟩ : ∃ q, wr.heap.size = q := ⟨_, rfl⟩
        obtain ⟨Wx, hWx⟩ : ∃ W, wr.alloc (.cells #[.int .i64 y.c, .int .i64 y.o.1, .int .i64 y.o.2, .int .i64 y.i.1, .int .i64 y.i.2] 56) = W := ⟨_, rfl⟩
        have kx : Below wr.heap.size wr Wx := by rw [← hWx]; exact (Below.refl _ _).alloc (Nat.le_refl _) _
        have XB : Hid (Blk Wx q 56 #[.int .i64 y.c, .int .i64 y.o.1, .int .i64 y.o.2, .int .i64 y.i.1, .int .i64 y.i.2]) := Lib.hid (by rw [← hq, ← hWx]; exact Blk.new _ _ _)
        have hlz : w4.heap.size ≤ wr.heap.size := F.out.bz.size
        have hl7 : b7 < wr.heap.size := by have := HB24.out; omega
        have hl9 : b9 < wr.heap.size := by have := HB4.out; omega
        have C0 := (kx.cell (p := ⟨b7, _, none⟩) hl7).trans c0
        have D0 := (kx.cell (p := ⟨b9, _, none⟩) hl9).trans a0
        have FX := Lib.hid (F.out.call kx)
        have HQ4 : Hid (w4.heap.size ≤ q) := Lib.hid (by rw [← hq]; exact hlz)
        have y1 : (y.c != x.1) = false := by rw [hat.1]; simp
        have x5 := XB.out
        have d0 := x5.cell 0
        have d1 := x5.cell 1
        have d2 := x5.cell 2
        have d3 := x5.cell 3
        have d4 := x5.cell 4
        simp at d0 d1 d2 d3 d4
        clear hat hki hx hym a0 a1 a2 x5
        go_upto_region 15 with fail
        have HWJ : Hid (wrap64 ((j : Int) + 1) = ((j + 1 : Nat) : Int)) := Lib.hid (by have := HNS.out; unfold wrap64; omega)
        have hzx : Wx.heap.size = q + 1 := by rw [← hq, ← hWx]; simp
        have HZX := Lib.hid hzx
        have hpv : ∃ q1 q2 is, peerV (rpeerOf t.N t.ws t.hn t.hl y.o.1 y.o.2) = .tuple #[.agg #[.int .i64 q1, .int .i64 q2], .bool is] ∧ (1 < y.c → is = true ∧ q1 = y.i.1 ∧ q2 = y.i.2) := by
          cases hP : rpeerOf t.N t.ws t.hn t.hl y.o.1 y.o.2 with
          | none => exact ⟨0, 0, false, rfl, fun h => by have := HAc.out.2.1 h; rw [hP] at this; cases this⟩
          | some pq =>
            obtain ⟨q1, q2⟩ := pq
            refine ⟨q1, q2, true, rfl, fun h => ?_⟩
            have := HAc.out.2.1 h
            rw [hP] at this
            injection this with this
            rw [← this]
            exact ⟨rfl, rfl, rfl⟩
        obtain ⟨q1, q2, is, hpv, hpi⟩ := hpv
        have HPI := Lib.hid hpi
        have HPQ := Lib.hid (HP.out y.o.1 y.o.2)
        rw [hpv] at HPQ
        have HCj := Lib.hid (fun hc => HCo.out j y HY.out hc)
        rcases Nat.eq_zero_or_pos j with h0 | h0
        all_goals first
          | (have y2 : ¬ (0 : Int) < (j : Int) := by omega
             have y2' : ¬ 0 < j := by omega
             clear h0 HCo HP hpv hpi hzx
             go_quiet (fail))
          | (have y2 : (0 : Int) < (j : Int) := by omega
             obtain ⟨p, hp⟩ : ∃ p, p + 1 = j := ⟨j - 1, by omega⟩
             have y2' : 0 < j := h0
             have hw : wrap64 ((j : Int) - 1) = (p : Int) := by have := HNS.out; unfold wrap64; omega
             obtain ⟨b8, o8, z, hA8, -, hz, -, g0, -⟩ := plcs_at (R2.out.below (F.out.bz.mono HB24.out)) HN.out (k := p) (by omega)
             injection hA8 with hA8
             injection hA8 with hA8 hA9
             subst hA8 hA9
             have G0 := (kx.cell (p := ⟨b7, _, none⟩) hl7).trans g0
             have y3 : ¬ y.c ≤ z.c := by have := HUP.out p j z y hz HY.out (by omega); omega
             have y5 : (0 : Int) ≤ (p : Int) := by omega
             have y6 : (p : Int) < (n : Int) := by omega
             clear h0 g0 hz hp HCo HP hpv hpi hzx
             go_quiet (fail)
             clear G0 y3 y5 y6 hw)
        all_goals
          have kq := below_drewN (Below.refl Wx.heap.size Wx) nq
          have FQ := Lib.hid (FX.out.call kq)
          have XQ := Lib.hid (XB.out.call kq)
          have HZQ : Hid ((Wx.drewN nq).heap.size = q + 1) := Lib.hid HZX.out
          have R2Q := Lib.hid (R2.out.below (FQ.out.bz.mono HB24.out))
          clear XB FX C0 D0 d0 d1 d2 d3 d4 c0 c1 c2' c3' c4 kx kq y1 hWx hq HZX hl7 hl9 y2 y2' hlz F
          generalize Wx.drewN nq = wq at *
          have x1 := FQ.out.s.tb
          simp only [TN.flat, hnw] at x1
          have x2 := XQ.out
          have p0 := x1.cell 0
          have p1 := x1.cell 1
          have p2 := x1.cell 2
          have p3 := x1.cell 3
          simp at p0 p1 p2 p3
          have d0 := x2.cell 0
          have d1 := x2.cell 1
          have d2 := x2.cell 2
          have d3 := x2.cell 3
          have d4 := x2.cell 4
          simp at d0 d1 d2 d3 d4
          clear x1 x2
          go_upto_region 18 with (first
            | (go_at_call 15; (with_reducible refine (HPQ.out _ FQ.out.s.bel HNW.out).mono ?_); rintro e5 w5 ⟨rfl, hb5⟩))
          obtain ⟨W6, hW6⟩ : ∃ W, w5.alloc (.cells #[.int .i64 q1, .int .i64 q2] 38) = W := ⟨_, rfl⟩
          have k6 : Below w5.heap.size w5 W6 := by rw [← hW6]; exact (Below.refl _ _).alloc (Nat.le_refl _) _
          have b6 : Blk W6 w5.heap.size 38 #[.int .i64 q1, .int .i64 q2] := by rw [← hW6]; exact Blk.new _ _ _
          have F6 := Lib.hid ((FQ.out.call hb5).call k6)
          have x2 := (XQ.out.call hb5).call k6
          have X6 := Lib.hid x2
          have x1 := F6.out.s.tb
          simp only [TN.flat, hnw] at x1
          have H6 : Hid (w4.heap.size ≤ W6.heap.size) := Lib.hid F6.out.bz.size
          have R26 := Lib.hid (R2.out.below (F6.out.bz.mono HB24.out))
          rw [hW6]
          clear p0 p1 p2 p3 d0 d1 d2 d3 d4 FQ XQ R2Q hb5 k6 hW6 HZQ
          have r0 := b6.cell 0
          have r1 := b6.cell 1
          simp at r0 r1
          have p0 := x1.cell 0
          have p1 := x1.cell 1
          have p2 := x1.cell 2
          have p3 := x1.cell 3
          simp at p0 p1 p2 p3
          have d0 := x2.cell 0
          have d1 := x2.cell 1
          have d2 := x2.cell 2
          have d3 := x2.cell 3
          have d4 := x2.cell 4
          simp at d0 d1 d2 d3 d4
          clear x1 x2 b6
          rcases HKc.out with ⟨hk1, -, -⟩ | ⟨hk1, -, -⟩ | ⟨hk1, -, -⟩
          · have hc : y.c = 0 := by rw [HAc.out.1, hk1]
            have hio := HAc.out.2.2.1 hc
            have t1 : ¬ (1 : Int) < y.c := by omega
            have t2 : (y.c == 0) = true := by rw [hc]; rfl
            have t3 : (y.c == 1) = false := by rw [hc]; rfl
            have t4 : portEq y.i.1 y.i.2 t.hn t.hl = true := by rw [hio]; simp [portEq]
            clear hk1 hio hc
            go_upto_region 22 with (at_builtin; refine wpList_append_any _ rfl (.tmp 163) (.tmp 164) 50 rfl W6.heap.size 56 i0 _ 5 40 Try.underlying50 hi0 hz0 hz1 hz2 rfl (by decide) _ 0 [] rfl (World.ownsRow_nil _ _ _ _) w2.heap.size (some ⟨b7, o7, none⟩) n c2 (plcC d) rfl R26.out (plcC_one d) (by have := HNS.out; unfold maxLen; omega) (by have := HNS.out; omega) (Nat.le_refl _) ?_; intro v9 w9 hown hg hat)
            simp only [Nat.zero_add, List.nil_append] at hown
            obtain ⟨h9, c9, rfl, hlo9, hhi9⟩ := ownsRow_pos hown (by omega)
            have RW := RowC.of_own hown
            have hb9' : Below W6.heap.size W6 w9 := (Below.refl _ _).grown hg (Nat.le_refl _) (fun g e => by cases e)
            have F9 := Lib.hid (F6.out.call hb9')
            have X9 := Lib.hid (X6.out.call hb9')
            have g3 := RW.cell (plcC_at HY.out).1
            have g4 := RW.cell (plcC_at HY.out).2
            have z3 := RW.frozen (j * 5 + 3)
            have z4 := RW.frozen (j * 5 + 4)
            have x2 := X9.out
            clear p0 p1 p2 p3 d0 d1 d2 d3 d4 r0 r1
            have d0 := x2.cell 0
            have d1 := x2.cell 1
            have d2 := x2.cell 2
            have d3 := x2.cell 3
            have d4 := x2.cell 4
            simp at d0 d1 d2 d3 d4
            have hq9 : q < h9 := by have := X6.out.lt; omega
            have h49 : w4.heap.size ≤ h9 := by have := H6.out; omega
            have HRW := Lib.hid RW
            clear hown hg hat hb9' x2 RW
            go_upto_region 23 with fail
            have RS := (HRW.out.set (j * 5 + 3) (.int .i64 y.o.1)).set (j * 5 + 4) (.int .i64 y.o.2)
            rw [plcC_set d j y y.o HY.out] at RS
            have F10 := Lib.hid (F9.out.deep HZ4.out (((Below.refl _ w9).setCell (p := ⟨h9, j * 5 + 3, none⟩) h49 (.int .i64 y.o.1)).setCell (p := ⟨h9, j * 5 + 4, none⟩) h49 (.int .i64 y.o.2)))
            have R10 := Lib.hid (RS.reads (n := n) (size := 5) (by rw [plcC_len, List.length_set, HN.out]))
            have x3 := (X9.out.far (p := ⟨h9, j * 5 + 3, none⟩) (by show q ≠ h9; omega) (.int .i64 y.o.1)).far (p := ⟨h9, j * 5 + 4, none⟩) (by show q ≠ h9; omega) (.int .i64 y.o.2)
            have x1 := F10.out.s.kb
            have x2 := F10.out.s.tb
            simp only [KK.flat, TN.flat, hnw] at x1 x2
            clear d0 d1 d2 d3 d4 RS g3 g4 z3 z4 F9 X9 HRW
            have f0 := x1.cell 0
            have f1 := x1.cell 1
            have f2 := x1.cell 2
            have f3 := x1.cell 3
            have f4 := x1.cell 4
            have f5 := x1.cell 5
            have f6 := x1.cell 6
            have f7 := x1.cell 7
            have f8 := x1.cell 8
            have f9 := x1.cell 9
            have f10 := x1.cell 10
            simp at f0 f1 f2 f3 f4 f5 f6 f7 f8 f9 f10
            have p0 := x2.cell 0
            have p1 := x2.cell 1
            have p2 := x2.cell 2
            have p3 := x2.cell 3
            simp at p0 p1 p2 p3
            have d0 := x3.cell 0
            have d1 := x3.cell 1
            have d2 := x3.cell 2
            have d3 := x3.cell 3
            have d4 := x3.cell 4
            simp at d0 d1 d2 d3 d4
            clear x1 x2 x3
            generalize (w9.setCell ⟨h9, j * 5 + 3, none⟩ (.int .i64 y.o.1)).setCell ⟨h9, j * 5 + 4, none⟩ (.int .i64 y.o.2) = w10 at *
            have hcn : ¬ 1 < y.c := t1
            go_wp2_with fail
            go_roundw
            case rel => exact ⟨j + 1, by omega, by rw [HWJ.out], F10⟩
            case measure => rw [HWJ.out]; simp [intOf]; omega
          · have hc : y.c = 1 := by rw [HAc.out.1, hk1]
            have hio := HAc.out.2.2.2 hc
            have t1 : ¬ (1 : Int) < y.c := by omega
            have t2 : (y.c == 0) = false := by rw [hc]; rfl
            have t3 : (y.c == 1) = true := by rw [hc]; rfl
            have t4 : portEq y.o.1 y.o.2 t.hn t.hl = true := by rw [hio]; simp [portEq]
            clear hk1 hio hc
            go_upto_region 22 with (at_builtin; refine wpList_append_any _ rfl (.tmp 163) (.tmp 164) 50 rfl W6.heap.size 56 i0 _ 5 40 Try.underlying50 hi0 hz0 hz1 hz2 rfl (by decide) _ 0 [] rfl (World.ownsRow_nil _ _ _ _) w2.heap.size (some ⟨b7, o7, none⟩) n c2 (plcC d) rfl R26.out (plcC_one d) (by have := HNS.out; unfold maxLen; omega) (by have := HNS.out; omega) (Nat.le_refl _) ?_; intro v9 w9 hown hg hat)
            simp only [Nat.zero_add, List.nil_append] at hown
            obtain ⟨h9, c9, rfl, hlo9, hhi9⟩ := ownsRow_pos hown (by omega)
            have RW := RowC.of_own hown
            have hb9' : Below W6.heap.size W6 w9 := (Below.refl _ _).grown hg (Nat.le_refl _) (fun g e => by cases e)
            have F9 := Lib.hid (F6.out.call hb9')
            have X9 := Lib.hid (X6.out.call hb9')
            have g3 := RW.cell (plcC_at HY.out).1
            have g4 := RW.cell (plcC_at HY.out).2
            have z3 := RW.frozen (j * 5 + 3)
            have z4 := RW.frozen (j * 5 + 4)
            have x2 := X9.out
            clear p0 p1 p2 p3 d0 d1 d2 d3 d4 r0 r1
            have d0 := x2.cell 0
            have d1 := x2.cell 1
            have d2 := x2.cell 2
            have d3 := x2.cell 3
            have d4 := x2.cell 4
            simp at d0 d1 d2 d3 d4
            have hq9 : q < h9 := by have := X6.out.lt; omega
            have h49 : w4.heap.size ≤ h9 := by have := H6.out; omega
            have HRW := Lib.hid RW
            clear hown hg hat hb9' x2 RW
            go_upto_region 23 with fail
            have RS := (HRW.out.set (j * 5 + 3) (.int .i64 y.o.1)).set (j * 5 + 4) (.int .i64 y.o.2)
            rw [plcC_set d j y y.o HY.out] at RS
            have F10 := Lib.hid (F9.out.deep HZ4.out (((Below.refl _ w9).setCell (p := ⟨h9, j * 5 + 3, none⟩) h49 (.int .i64 y.o.1)).setCell (p := ⟨h9, j * 5 + 4, none⟩) h49 (.int .i64 y.o.2)))
            have R10 := Lib.hid (RS.reads (n := n) (size := 5) (by rw [plcC_len, List.length_set, HN.out]))
            have x3 := (X9.out.far (p := ⟨h9, j * 5 + 3, none⟩) (by show q ≠ h9; omega) (.int .i64 y.o.1)).far (p := ⟨h9, j * 5 + 4, none⟩) (by show q ≠ h9; omega) (.int .i64 y.o.2)
            have x1 := F10.out.s.kb
            have x2 := F10.out.s.tb
            simp only [KK.flat, TN.flat, hnw] at x1 x2
            clear d0 d1 d2 d3 d4 RS g3 g4 z3 z4 F9 X9 HRW
            have f0 := x1.cell 0
            have f1 := x1.cell 1
            have f2 := x1.cell 2
            have f3 := x1.cell 3
            have f4 := x1.cell 4
            have f5 := x1.cell 5
            have f6 := x1.cell 6
            have f7 := x1.cell 7
            have f8 := x1.cell 8
            have f9 := x1.cell 9
            have f10 := x1.cell 10
            simp at f0 f1 f2 f3 f4 f5 f6 f7 f8 f9 f10
            have p0 := x2.cell 0
            have p1 := x2.cell 1
            have p2 := x2.cell 2
            have p3 := x2.cell 3
            simp at p0 p1 p2 p3
            have d0 := x3.cell 0
            have d1 := x3.cell 1
            have d2 := x3.cell 2
            have d3 := x3.cell 3
            have d4 := x3.cell 4
            simp at d0 d1 d2 d3 d4
            clear x1 x2 x3
            generalize (w9.setCell ⟨h9, j * 5 + 3, none⟩ (.int .i64 y.o.1)).setCell ⟨h9, j * 5 + 4, none⟩ (.int .i64 y.o.2) = w10 at *
            go_wp2_with fail
            go_roundw
            case rel => exact ⟨j + 1, by omega, by rw [HWJ.out], F10⟩
            case measure => rw [HWJ.out]; simp [intOf]; omega
          · have hc : 1 < y.c := by rw [HAc.out.1]; omega
            obtain ⟨rfl, rfl, rfl⟩ := HPI.out hc
            have t1 : (1 : Int) < y.c := hc
            have t2 : (y.c == 0) = false := by simp; omega
            have t3 : (y.c == 1) = false := by simp; omega
            have t4 : portEq y.i.1 y.i.2 y.i.1 y.i.2 = true := by simp [portEq]
            have HCc := Lib.hid (HCj.out hc)
            clear hk1 hc
            go_upto_region 22 with (at_builtin; refine wpList_append_any _ rfl (.tmp 163) (.tmp 164) 50 rfl W6.heap.size 56 i0 _ 5 40 Try.underlying50 hi0 hz0 hz1 hz2 rfl (by decide) _ 0 [] rfl (World.ownsRow_nil _ _ _ _) w2.heap.size (some ⟨b7, o7, none⟩) n c2 (plcC d) rfl R26.out (plcC_one d) (by have := HNS.out; unfold maxLen; omega) (by have := HNS.out; omega) (Nat.le_refl _) ?_; intro v9 w9 hown hg hat)
            simp only [Nat.zero_add, List.nil_append] at hown
            obtain ⟨h9, c9, rfl, hlo9, hhi9⟩ := ownsRow_pos hown (by omega)
            have RW := RowC.of_own hown
            have hb9' : Below W6.heap.size W6 w9 := (Below.refl _ _).grown hg (Nat.le_refl _) (fun g e => by cases e)
            have F9 := Lib.hid (F6.out.call hb9')
            have X9 := Lib.hid (X6.out.call hb9')
            have g3 := RW.cell (plcC_at HY.out).1
            have g4 := RW.cell (plcC_at HY.out).2
            have z3 := RW.frozen (j * 5 + 3)
            have z4 := RW.frozen (j * 5 + 4)
            have x2 := X9.out
            clear p0 p1 p2 p3 d0 d1 d2 d3 d4 r0 r1
            have d0 := x2.cell 0
            have d1 := x2.cell 1
            have d2 := x2.cell 2
            have d3 := x2.cell 3
            have d4 := x2.cell 4
            simp at d0 d1 d2 d3 d4
            have hq9 : q < h9 := by have := X6.out.lt; omega
            have h49 : w4.heap.size ≤ h9 := by have := H6.out; omega
            have HRW := Lib.hid RW
            clear hown hg hat hb9' x2 RW
            go_upto_region 23 with fail
            have RS := (HRW.out.set (j * 5 + 3) (.int .i64 y.o.1)).set (j * 5 + 4) (.int .i64 y.o.2)
            rw [plcC_set d j y y.o HY.out] at RS
            have F10 := Lib.hid (F9.out.deep HZ4.out (((Below.refl _ w9).setCell (p := ⟨h9, j * 5 + 3, none⟩) h49 (.int .i64 y.o.1)).setCell (p := ⟨h9, j * 5 + 4, none⟩) h49 (.int .i64 y.o.2)))
            have R10 := Lib.hid (RS.reads (n := n) (size := 5) (by rw [plcC_len, List.length_set, HN.out]))
            have x3 := (X9.out.far (p := ⟨h9, j * 5 + 3, none⟩) (by show q ≠ h9; omega) (.int .i64 y.o.1)).far (p := ⟨h9, j * 5 + 4, none⟩) (by show q ≠ h9; omega) (.int .i64 y.o.2)
            have x1 := F10.out.s.kb
            have x2 := F10.out.s.tb
            simp only [KK.flat, TN.flat, hnw] at x1 x2
            clear d0 d1 d2 d3 d4 RS g3 g4 z3 z4 F9 X9 HRW
            have f0 := x1.cell 0
            have f1 := x1.cell 1
            have f2 := x1.cell 2
            have f3 := x1.cell 3
            have f4 := x1.cell 4
            have f5 := x1.cell 5
            have f6 := x1.cell 6
            have f7 := x1.cell 7
            have f8 := x1.cell 8
            have f9 := x1.cell 9
            have f10 := x1.cell 10
            simp at f0 f1 f2 f3 f4 f5 f6 f7 f8 f9 f10
            have p0 := x2.cell 0
            have p1 := x2.cell 1
            have p2 := x2.cell 2
            have p3 := x2.cell 3
            simp at p0 p1 p2 p3
            have d0 := x3.cell 0
            have d1 := x3.cell 1
            have d2 := x3.cell 2
            have d3 := x3.cell 3
            have d4 := x3.cell 4
            simp at d0 d1 d2 d3 d4
            clear x1 x2 x3
            generalize (w9.setCell ⟨h9, j * 5 + 3, none⟩ (.int .i64 y.o.1)).setCell ⟨h9, j * 5 + 4, none⟩ (.int .i64 y.o.2) = w10 at *
            go_wp2_with (first
              | (go_at_call 14; (with_reducible refine (HCc.out _ _ _ F10.out.s.bel HNW.out R10.out).mono ?_); rintro e7 w7 ⟨rfl, hb7'⟩
                 have F11 := Lib.hid (F10.out.call hb7')))
            go_roundw
            case rel => exact ⟨j + 1, by omega, by rw [HWJ.out], F11⟩
            case measure => rw [HWJ.out]; simp [intOf]; omega
      · have hltI : ¬ (j : Int) < n := by omega
        go_wp2_with (first
          | (go_at_call 7; (with_reducible refine (HH.out _).mono ?_); rintro e2 w7 ⟨rfl, hb2⟩))
        go_ret
        exact ⟨rfl, F.out.s.bel.trans (hb2.mono F.out.s.bel.size)⟩
end Go.Proofs.Ytekamebpjjkifaa
