/- The law TopoTurned walked. -/
import Derived.Test.YtadpenphiagdmaaLA
import Derived.Test.YtadpenphiagdmaaPA
namespace Go.Proofs.Ytadpenphiagdmaa
open Go.RowKit
set_option linter.unusedVariables false
set_option linter.unusedSimpArgs false

/-- A block whose first wires are these. -/
def Row (w : World) (g : Nat) (n : Nat) (ws : List Wire) : Prop := ∃ cur, Blk w g 50 cur ∧ 4 * n ≤ cur.size ∧ cur.toList.take (4 * n) = wcells ws
theorem Row.of_own {w : World} {B n c g : Nat} {ws : List Wire} (h : w.ownsRow B 50 4 (.slice (some ⟨g, 0, none⟩) n c) n (wcells ws)) : Row w g n ws := by
  rcases h.2 with ⟨e, _⟩ | ⟨g', cap, cur, e, hb, hg, hc, hm, hs, ht⟩
  · cases e
  · injection e with e1 e2 e3
    injection e1 with e1
    injection e1 with e1
    subst e1 e3
    refine ⟨cur, hg, ?_, ?_⟩
    · rw [hs]; omega
    · rw [Nat.mul_comm]; exact ht
theorem Row.lt {w : World} {g n : Nat} {ws : List Wire} (h : Row w g n ws) : g < w.heap.size := by
  obtain ⟨cur, hb, _⟩ := h
  exact hb.lt
theorem Row.drewN {w : World} {g n : Nat} {ws : List Wire} (h : Row w g n ws) (k : Nat) : Row (w.drewN k) g n ws := h
theorem Row.alloc {w : World} {g n : Nat} {ws : List Wire} (h : Row w g n ws) (o : Obj) : Row (w.alloc o) g n ws := by
  obtain ⟨cur, hb, h1⟩ := h
  exact ⟨cur, hb.alloc o, h1⟩
theorem Row.reads {w : World} {g n : Nat} {ws : List Wire} (h : Row w g n ws) : Reads w w.heap.size 4 (some ⟨g, 0, none⟩) n (wcells ws) := by
  obtain ⟨cur, hb, h1, h2⟩ := h
  refine ⟨by rw [← h2, List.length_take, Array.length_toList]; omega, fun _ => ⟨_, rfl, hb.lt, fun j u hu => ?_⟩⟩
  have hadd : (⟨g, 0, none⟩ : Addr).add j = ⟨g, j, none⟩ := by unfold Addr.add; split <;> simp_all
  rw [hadd, hb.cell j]
  rw [← h2, List.getElem?_take] at hu
  split at hu
  · simpa using hu
  · cases hu
theorem wcells_set (ws : List Wire) : ∀ (i : Nat) (x : Wire), i < ws.length → ((((wcells ws).set (i * 4) (.int .i64 x.a)).set (i * 4 + 1) (.int .i64 x.b)).set (i * 4 + 2) (.int .i64 x.c)).set (i * 4 + 3) (.int .i64 x.d) = wcells (ws.set i x) := by
  induction ws with
  | nil => intro i x h; simp at h
  | cons y r ih =>
    intro i x h
    cases i with
    | zero => rfl
    | succ i =>
      have e : (i + 1) * 4 = i * 4 + 1 + 1 + 1 + 1 := by omega
      rw [e]
      show _ :: _ :: _ :: _ :: ((((wcells r).set (i * 4) (.int .i64 x.a)).set (i * 4 + 1) (.int .i64 x.b)).set (i * 4 + 2) (.int .i64 x.c)).set (i * 4 + 3) (.int .i64 x.d) = _
      rw [ih i x (by simpa using h)]
      rfl
theorem Row.set {w : World} {g n : Nat} {ws : List Wire} (h : Row w g n ws) {i : Nat} (hi : i < n) (x : Wire) :
    Row ((((w.setCell ⟨g, i * 4, none⟩ (.int .i64 x.a)).setCell ⟨g, i * 4 + 1, none⟩ (.int .i64 x.b)).setCell ⟨g, i * 4 + 2, none⟩ (.int .i64 x.c)).setCell ⟨g, i * 4 + 3, none⟩ (.int .i64 x.d)) g n (ws.set i x) := by
  obtain ⟨cur, hb, h1, h2⟩ := h
  have hl : ws.length = n := by
    have := congrArg List.length h2
    rw [wcells_length, List.length_take, Array.length_toList] at this; omega
  refine ⟨_, (((hb.set_ (i * 4) (.int .i64 x.a)).set_ (i * 4 + 1) (.int .i64 x.b)).set_ (i * 4 + 2) (.int .i64 x.c)).set_ (i * 4 + 3) (.int .i64 x.d), by simpa using h1, ?_⟩
  rw [← wcells_set ws i x (by omega), ← h2]
  simp only [Array.toList_setIfInBounds, List.take_set]
theorem Row.frozen {w : World} {g n : Nat} {ws : List Wire} (h : Row w g n ws) (i : Nat) : w.frozen? ⟨g, i, none⟩ = false := by
  obtain ⟨cur, hb, _⟩ := h
  exact hb.frozen i
theorem Row.cell {w : World} {g n : Nat} {ws : List Wire} (h : Row w g n ws) {k : Nat} {x : Wire} (hx : ws[k]? = some x) (hk : k < n) (j : Nat) (u : Value) (hj : x.cells[j]? = some u) : w.cell? ⟨g, k * 4 + j, none⟩ = some u := by
  obtain ⟨ad, e, _, hc⟩ := h.reads.2 (by omega)
  injection e with e
  subst e
  have := hc _ _ (wcells_get ws k x hx j u hj)
  have hadd : (⟨g, 0, none⟩ : Addr).add (k * 4 + j) = ⟨g, k * 4 + j, none⟩ := by unfold Addr.add; split <;> simp_all
  rwa [hadd] at this

theorem turn_trees {l s : List Wire} (h : Turn l s) (N hn hl : Int) : ∃ (T : List Int) (k : Int), T.length ≤ 100 ∧
    (∀ A m c w, Reads w w.heap.size 4 A m (wcells l) → m ≤ 1000000 → Calls Try.prog 10 #[.agg #[.int .i64 N, .slice A m c, .int .i64 hn, .int .i64 hl]] w (RetSE T k w)) ∧
    (∀ A m c w, Reads w w.heap.size 4 A m (wcells s) → m ≤ 1000000 → Calls Try.prog 10 #[.agg #[.int .i64 N, .slice A m c, .int .i64 hn, .int .i64 hl]] w (RetSE T k w)) :=
  ⟨_, _, rTreeR_len N hn hl l, fun A m c w hr hm => by have := tTree N hn hl A m c l w hr hm; rwa [tTreeR_eq] at this, fun A m c w hr hm => by have := tTree N hn hl A m c s w hr hm; rwa [tTreeR_eq, h.tree] at this⟩
theorem turn_children {l s : List Wire} (h : Turn l s) (N hn hl : Int) : ∃ (C : Int → List Int) (k : Int → Int), (∀ x, (C x).length ≤ 100) ∧
    (∀ x A m c w, Reads w w.heap.size 4 A m (wcells l) → m ≤ 1000000 → Calls Try.prog 13 #[.agg #[.int .i64 N, .slice A m c, .int .i64 hn, .int .i64 hl], .int .i64 x] w (RetSE (C x) (k x) w)) ∧
    (∀ x A m c w, Reads w w.heap.size 4 A m (wcells s) → m ≤ 1000000 → Calls Try.prog 13 #[.agg #[.int .i64 N, .slice A m c, .int .i64 hn, .int .i64 hl], .int .i64 x] w (RetSE (C x) (k x) w)) :=
  ⟨fun x => (rChildrenR N l hn hl x).1, fun x => (rChildrenR N l hn hl x).2, fun x => rChildrenR_len N hn hl x l, fun x A m c w hr hm => by have := tChildren N hn hl A m c l x w hr hm; rwa [tChildrenR_eq] at this, fun x A m c w hr hm => by have := tChildren N hn hl A m c s x w hr hm; rwa [tChildrenR_eq, h.children] at this⟩
theorem turn_mays {l s : List Wire} (h : Turn l s) (N hn hl : Int) : ∃ b : Bool,
    (∀ A m c w, Reads w w.heap.size 4 A m (wcells l) → m ≤ 1000000 → Calls Try.prog 18 #[.agg #[.int .i64 N, .slice A m c, .int .i64 hn, .int .i64 hl]] w (RetV (.bool b) w)) ∧
    (∀ A m c w, Reads w w.heap.size 4 A m (wcells s) → m ≤ 1000000 → Calls Try.prog 18 #[.agg #[.int .i64 N, .slice A m c, .int .i64 hn, .int .i64 hl]] w (RetV (.bool b) w)) :=
  ⟨mayB N l hn hl, fun A m c w hr hm => tmay N hn hl A m c l w hr hm, fun A m c w hr hm => by have := tmay N hn hl A m c s w hr hm; rwa [h.may] at this⟩
theorem turn_peers {l s : List Wire} (h : Turn l s) (N hn hl : Int) : ∃ (P Q : Int → Int → Int) (S : Int → Int → Bool),
    (∀ a b A m c w, Reads w w.heap.size 4 A m (wcells l) → m ≤ 1000000 → Calls Try.prog 20 #[.agg #[.int .i64 N, .slice A m c, .int .i64 hn, .int .i64 hl], .agg #[.int .i64 a, .int .i64 b]] w (RetV (.tuple #[.agg #[.int .i64 (P a b), .int .i64 (Q a b)], .bool (S a b)]) w)) ∧
    (∀ a b A m c w, Reads w w.heap.size 4 A m (wcells s) → m ≤ 1000000 → Calls Try.prog 20 #[.agg #[.int .i64 N, .slice A m c, .int .i64 hn, .int .i64 hl], .agg #[.int .i64 a, .int .i64 b]] w (RetV (.tuple #[.agg #[.int .i64 (P a b), .int .i64 (Q a b)], .bool (S a b)]) w)) := by
  have e : ∀ r, peerV r = .tuple #[.agg #[.int .i64 (r.getD (0, 0)).1, .int .i64 (r.getD (0, 0)).2], .bool r.isSome] := fun r => by
    rcases r with _ | ⟨a, b⟩ <;> rfl
  refine ⟨fun a b => ((rpeerOf N l hn hl a b).getD (0, 0)).1, fun a b => ((rpeerOf N l hn hl a b).getD (0, 0)).2, fun a b => (rpeerOf N l hn hl a b).isSome, ?_, ?_⟩
  · intro a b A m c w hr hm
    have := tPeer N hn hl a b A m c l w hr hm
    rwa [e] at this
  · intro a b A m c w hr hm
    have := tPeer N hn hl a b A m c s w hr hm
    rwa [h.peerR, e] at this
def bitOf (z : Int) (j : Nat) : Bool := bits BinOp.and .u64 (z / 2 ^ j) 1 == 1
theorem Row.drew {w : World} {g n : Nat} {ws : List Wire} (h : Row w g n ws) : Row w.drew g n ws := h
theorem Reads.get {w : World} {B size n b o : Nat} {xs : List Value} (h : Reads w B size (some ⟨b, o, none⟩) n xs) (hn : 0 < n) (j : Nat) (u : Value) (hu : xs[j]? = some u) : w.cell? ⟨b, o + j, none⟩ = some u := by
  obtain ⟨ad, e, _, hc⟩ := h.2 hn
  injection e with e
  subst e
  have := hc j u hu
  unfold Addr.add at this
  split at this
  · rename_i h0; subst h0; simpa using this
  · simpa using this
theorem mixed_step {T l : List Wire} {k : Nat} {y : Wire} (hT : T[k]? = some y) (hk : k < l.length) : (T.take k ++ l.drop k).set k y = T.take (k + 1) ++ l.drop (k + 1) := by
  have hkT := (List.getElem?_eq_some_iff.1 hT).1
  have e1 : T.take (k + 1) = T.take k ++ [y] := by rw [List.take_add_one, hT]; rfl
  have hl : (T.take k).length = k := by rw [List.length_take]; omega
  rw [List.set_append, if_neg (by omega), hl, Nat.sub_self, e1, List.drop_eq_getElem_cons hk, List.set_cons_zero, List.append_assoc]
  rfl
theorem turnAt_bit {z : Int} {ws : List Wire} {i j : Nat} {x : Wire} (hj : ws.length - 1 - i = j) (hx : ws[j]? = some x) : turnAt (bitOf z) ws i = if bitOf z j then x.flip else x := by
  rw [turnAt, hj, List.getD_eq_getElem?_getD, hx]; rfl
set_option maxRecDepth 100000 in
set_option maxHeartbeats 4000000 in
theorem turned_walk (N hn hl : Int) (A : Option Addr) (m c : Nat) (ws : List Wire) (z : Int) (wz : (Lit.int .u64 z).wf = true) (w : World) (hr : Reads w w.heap.size 4 A m (wcells ws)) (hmc : m ≤ c) (hc : c ≤ maxLen) :
    Calls Try.prog 7 #[.agg #[.int .i64 N, .slice A m c, .int .i64 hn, .int .i64 hl], .int .u64 z] w (RetV (.bool true) w) := by
  clear wz
  obtain ⟨k0, b0⟩ := lay1 w #[.int .i64 N, .slice A m c, .int .i64 hn, .int .i64 hl] 26
  have h40 : (ws.take 40).length ≤ 40 := by rw [List.length_take]; omega
  have H9 := lcopied N hn hl A m c ws (w.alloc (.cells #[.int .i64 N, .slice A m c, .int .i64 hn, .int .i64 hl] 26)) (hr.up k0 k0.size) hmc hc
  obtain ⟨ws1, hw1⟩ : ∃ ws1, ws.take 40 = ws1 := ⟨_, rfl⟩
  rw [hw1] at H9 h40
  clear hw1 hr
  have H9' := Lib.hid H9; clear H9
  go_enter Try.func7, Try.ntmps7
  go_upto_region 2 with (first
    | (go_at_call 9; refine H9'.out.mono ?_; clear H9'; rintro e w1 ⟨A1, m1, c1, rfl, ho1, hmc1, hm1, hb1⟩
       have Hm1 := Lib.hid hm1
       clear hm1
       have b1 := b0.call hb1
       have l1 := b1.lt
       have c10 := b1.cell 0
       have c11 := b1.cell 1
       have c12 := b1.cell 2
       have c13 := b1.cell 3
       simp at c10 c11 c12 c13
       have f10 := b1.frozen 0
       have f11 := b1.frozen 1
       have f12 := b1.frozen 2
       have f13 := b1.frozen 3
       ))
  have Hms := Hm1.out
  rw [← Hm1.out] at h40
  clear Hm1
  have Hms' := Lib.hid Hms; clear Hms
  have hk1 := k0.call k0.size hb1
  have hbx := box4 hk1 b1 (by rfl) (Nat.le_refl _) ho1 (by simp) (.int .i64 N) (.slice A1 m1 c1) (.int .i64 hn) (.int .i64 hl)
  have hcap := ownsRow_max ho1
  obtain ⟨W, hW⟩ : ∃ W, ((((w1.setCell ⟨w.heap.size, 0, none⟩ (.int .i64 N)).setCell ⟨w.heap.size, 1, none⟩ (.slice A1 m1 c1)).setCell ⟨w.heap.size, 2, none⟩ (.int .i64 hn)).setCell ⟨w.heap.size, 3, none⟩ (.int .i64 hl)) = W := ⟨_, rfl⟩
  rw [hW] at hbx ⊢
  obtain ⟨kW, bW, oW⟩ := hbx
  have rW := Reads.of_own oW
  clear hW oW ho1 f10 f11 f12 f13 c10 c11 c12 c13 b1 hk1 hb1 k0 b0 l1
  have G9 := lcopied N hn hl A1 m1 c1 ws1 W rW hmc1 hcap
  rw [List.take_of_length_le (by have := Hms'.out; omega)] at G9
  have G9' := Lib.hid G9; clear G9
  have c10 := bW.cell 0
  have c11 := bW.cell 1
  have c12 := bW.cell 2
  have c13 := bW.cell 3
  simp at c10 c11 c12 c13
  go_upto_region 3 with (first
    | (go_at_call 9; refine G9'.out.mono ?_; clear G9'; rintro e w2 ⟨A2, m2, c2, rfl, ho2, _, hm2, hb2⟩
       have Hm2 := Lib.hid hm2
       clear hm2
       have r2 := rW.keepB hb2 (Nat.le_refl _)
       have b2 := bW.call hb2
       have k2 := kW.call kW.size hb2
       have l2 := bW.lt
       ))
  obtain rfl : m2 = m1 := by have := Hms'.out; have := Hm2.out; omega
  have hbO := Blk.new w2 26 #[.int .i64 N, .slice A2 m2 c2, .int .i64 hn, .int .i64 hl]
  have oO := ho2.below ((Below.refl _ w2).alloc (Nat.le_refl _) (.cells #[.int .i64 N, .slice A2 m2 c2, .int .i64 hn, .int .i64 hl] 26))
  have rT := r2.alloc hb2.size (.cells #[.int .i64 N, .slice A2 m2 c2, .int .i64 hn, .int .i64 hl] 26)
  have bT := b2.alloc (.cells #[.int .i64 N, .slice A2 m2 c2, .int .i64 hn, .int .i64 hl] 26)
  have kT := k2.alloc k2.size (.cells #[.int .i64 N, .slice A2 m2 c2, .int .i64 hn, .int .i64 hl] 26)
  have hg0 := hb2.size
  have oL := ho2.lt
  obtain ⟨V, hV⟩ : ∃ V, w2.alloc (.cells #[.int .i64 N, .slice A2 m2 c2, .int .i64 hn, .int .i64 hl] 26) = V := ⟨_, rfl⟩
  obtain ⟨g, hg⟩ : ∃ g, w2.heap.size = g := ⟨_, rfl⟩
  obtain ⟨B, hB⟩ : ∃ B, W.heap.size = B := ⟨_, rfl⟩
  rw [hV] at hbO oO rT bT kT ⊢
  rw [hg] at hbO hg0 oL ⊢
  rw [hB] at oO rT hg0 oL l2
  clear hV hg hB ho2 r2 b2 k2 hb2 rW bW kW c10 c11 c12 c13 Hm2
  have lO := hbO.lt
  have hrow : ∀ g2 : Nat, A2 = some ⟨g2, 0, none⟩ → Row V g2 m2 ((turned (bitOf z) ws1).take 0 ++ ws1.drop 0) := fun g2 e => by subst e; exact Row.of_own oO
  have hform : 0 < m2 → ∃ g2 : Nat, A2 = some ⟨g2, 0, none⟩ ∧ B ≤ g2 ∧ g2 < g := fun h0 => by
    obtain ⟨g2, cap2, e2, hgB, hgl⟩ := ownsRow_pos oO h0
    injection e2 with e2 _ e3
    subst e2
    obtain ⟨h1, h2⟩ := oL g2 rfl
    exact ⟨g2, rfl, h1, h2⟩
  have Hform := Lib.hid hform
  have Hrow := Lib.hid hrow
  clear hform hrow oO oL
  have c10 := bT.cell 0
  have c11 := bT.cell 1
  have c12 := bT.cell 2
  have c13 := bT.cell 3
  simp at c10 c11 c12 c13
  have d10 := hbO.cell 0
  have d11 := hbO.cell 1
  have d12 := hbO.cell 2
  have d13 := hbO.cell 3
  simp at d10 d11 d12 d13
  go_wp2
  go_loopw [29] (fun i wr => ∃ k : Nat, i = .int .i64 k ∧ k ≤ m2 ∧ Below w.heap.size w wr ∧ Blk wr w.heap.size 26 #[.int .i64 N, .slice A1 m2 c1, .int .i64 hn, .int .i64 hl] ∧ Blk wr g 26 #[.int .i64 N, .slice A2 m2 c2, .int .i64 hn, .int .i64 hl] ∧ Reads wr B 4 A1 m2 (wcells ws1) ∧
      Hid (∀ g2 : Nat, A2 = some ⟨g2, 0, none⟩ → Row wr g2 m2 ((turned (bitOf z) ws1).take k ++ ws1.drop k))) (fun i _ => m2 - (intOf i).toNat)
  case atStart => exact ⟨0, rfl, by omega, kT, bT, hbO, rT, Hrow⟩
  case round =>
    clear c10 c11 c12 c13 d10 d11 d12 d13 bT hbO rT Hrow kT lO
    obtain ⟨k, rfl, hk, kR, bR, oR, rR, WR⟩ := hrel
    have lb := bR.lt
    have lo := oR.lt
    by_cases hlt : k < m2
    · obtain ⟨g2, rfl, hgB, hg2⟩ := Hform.out (by omega)
      have wR := WR.out g2 rfl
      clear WR
      have lw := wR.lt
      have c10 := bR.cell 0
      have c11 := bR.cell 1
      have c12 := bR.cell 2
      have c13 := bR.cell 3
      simp at c10 c11 c12 c13
      have d10 := oR.cell 0
      have d11 := oR.cell 1
      have d12 := oR.cell 2
      have d13 := oR.cell 3
      simp at d10 d11 d12 d13
      have hki : (k : Int) < (m2 : Int) := by omega
      obtain ⟨j, hj⟩ : ∃ j, m2 - 1 - k = j := ⟨_, rfl⟩
      have hjI : (m2 : Int) - 1 - (k : Int) = (j : Int) := by omega
      have hjm : j < m2 := by omega
      have hjmI : (j : Int) < (m2 : Int) := by omega
      have hj40 : (j : Int) < 64 := by omega
      obtain ⟨x, ex⟩ : ∃ x, ws1[j]? = some x := ⟨_, List.getElem?_eq_getElem (by rw [← Hms'.out]; exact hjm)⟩
      obtain ⟨ba, oa, rfl, hba, hca⟩ := rR.addr (by omega) (by omega)
      have q0 := hca _ _ (wcells_get ws1 j x ex 0 _ rfl)
      have q1 := hca _ _ (wcells_get ws1 j x ex 1 _ rfl)
      have q2 := hca _ _ (wcells_get ws1 j x ex 2 _ rfl)
      have q3 := hca _ _ (wcells_get ws1 j x ex 3 _ rfl)
      simp only [Nat.add_zero, ← Nat.add_assoc] at q0 q1 q2 q3
      clear hca
      have Ex := Lib.hid ex; clear ex
      have Hj := Lib.hid hj; clear hj
      go_upto_region 7 with (fail)
      have hml : ((turned (bitOf z) ws1).take k ++ ws1.drop k).length = m2 := by
        rw [List.length_append, List.length_take, List.length_drop, turned_len, ← Hms'.out]; omega
      obtain ⟨y, ey⟩ : ∃ y, ((turned (bitOf z) ws1).take k ++ ws1.drop k)[k]? = some y := ⟨_, List.getElem?_eq_getElem (by rw [hml]; exact hlt)⟩
      have p0 := wR.cell ey hlt 0 _ rfl
      have p1 := wR.cell ey hlt 1 _ rfl
      have p2 := wR.cell ey hlt 2 _ rfl
      have p3 := wR.cell ey hlt 3 _ rfl
      have pf0 := wR.frozen (k * 4)
      have pf1 := wR.frozen (k * 4 + 1)
      have pf2 := wR.frozen (k * 4 + 2)
      have pf3 := wR.frozen (k * 4 + 3)
      rw [Nat.add_zero] at p0
      clear ey hml
      refine wp_region_quiet_tail 9 (by kernel_rfl) (by kernel_rfl) ?_
      simp only [List.take_succ_cons, List.take_zero, List.drop_succ_cons, List.drop_zero]
      repeat go_big_quiet_step (fail)
      refine wpQuiet_nil ?_
      go_upto_region 8 with (fail)
      have kY := (((((kR.setCell (p := ⟨g2, k * 4, none⟩) (by simp; omega) (.int .i64 x.a)).setCell (p := ⟨g2, k * 4 + 1, none⟩) (by simp; omega) (.int .i64 x.b)).setCell (p := ⟨g2, k * 4 + 2, none⟩) (by simp; omega) (.int .i64 x.c)).setCell (p := ⟨g2, k * 4 + 3, none⟩) (by simp; omega) (.int .i64 x.d))).drew
      have bY := (((((bR.far (p := ⟨g2, k * 4, none⟩) (by simp; omega) (.int .i64 x.a)).far (p := ⟨g2, k * 4 + 1, none⟩) (by simp; omega) (.int .i64 x.b)).far (p := ⟨g2, k * 4 + 2, none⟩) (by simp; omega) (.int .i64 x.c)).far (p := ⟨g2, k * 4 + 3, none⟩) (by simp; omega) (.int .i64 x.d))).drew
      have oY := (((((oR.far (p := ⟨g2, k * 4, none⟩) (by simp; omega) (.int .i64 x.a)).far (p := ⟨g2, k * 4 + 1, none⟩) (by simp; omega) (.int .i64 x.b)).far (p := ⟨g2, k * 4 + 2, none⟩) (by simp; omega) (.int .i64 x.c)).far (p := ⟨g2, k * 4 + 3, none⟩) (by simp; omega) (.int .i64 x.d))).drew
      have rY := (((((rR.setCell (p := ⟨g2, k * 4, none⟩) (by simp; omega) (.int .i64 x.a)).setCell (p := ⟨g2, k * 4 + 1, none⟩) (by simp; omega) (.int .i64 x.b)).setCell (p := ⟨g2, k * 4 + 2, none⟩) (by simp; omega) (.int .i64 x.c)).setCell (p := ⟨g2, k * 4 + 3, none⟩) (by simp; omega) (.int .i64 x.d))).drew
      have wY := (wR.set hlt x).drew
      obtain ⟨Y, hY⟩ : ∃ Y, ((((wr.setCell ⟨g2, k * 4, none⟩ (.int .i64 x.a)).setCell ⟨g2, k * 4 + 1, none⟩ (.int .i64 x.b)).setCell ⟨g2, k * 4 + 2, none⟩ (.int .i64 x.c)).setCell ⟨g2, k * 4 + 3, none⟩ (.int .i64 x.d)).drew = Y := ⟨_, rfl⟩
      have hsz : wr.heap.size = Y.heap.size := by rw [← hY]; simp
      rw [hY] at kY bY oY rY wY ⊢
      clear hY kR bR oR rR wR c10 c11 c12 c13 d10 d11 d12 d13 q0 q1 q2 q3 p0 p1 p2 p3 pf0 pf1 pf2 pf3
      have hT := turned_get (bits := bitOf z) (show k < ws1.length by rw [← Hms'.out]; exact hlt)
      rw [turnAt_bit (by rw [← Hms'.out]; exact Hj.out) Ex.out] at hT
      have hkl : k < ws1.length := by rw [← Hms'.out]; exact hlt
      cases hb : bitOf z j
      · rw [hb, if_neg (by simp)] at hT
        rw [mixed_step hT hkl] at wY
        have hb' : (bits BinOp.and .u64 (z / 2 ^ j) 1 == 1) = false := hb
        clear hb hT
        go_wp2
        go_roundw
        case rel => exact ⟨k + 1, by go_num, by omega, kY, bY, oY, rY, Lib.hid fun g3 e => by injection e with e; injection e with e; subst e; exact wY⟩
        case measure => simp [intOf]; omega
      · rw [hb, if_pos rfl] at hT
        have hb' : (bits BinOp.and .u64 (z / 2 ^ j) 1 == 1) = true := hb
        clear hb
        have lw := wY.lt
        have lb := bY.lt
        have lo := oY.lt
        have c10 := bY.cell 0
        have c11 := bY.cell 1
        have c12 := bY.cell 2
        have c13 := bY.cell 3
        simp at c10 c11 c12 c13
        have d10 := oY.cell 0
        have d11 := oY.cell 1
        have d12 := oY.cell 2
        have d13 := oY.cell 3
        simp at d10 d11 d12 d13
        have q0 := rY.get (by omega) _ _ (wcells_get ws1 j x Ex.out 0 _ rfl)
        have q1 := rY.get (by omega) _ _ (wcells_get ws1 j x Ex.out 1 _ rfl)
        have q2 := rY.get (by omega) _ _ (wcells_get ws1 j x Ex.out 2 _ rfl)
        have q3 := rY.get (by omega) _ _ (wcells_get ws1 j x Ex.out 3 _ rfl)
        simp only [Nat.add_zero, ← Nat.add_assoc] at q0 q1 q2 q3
        have hml : (((turned (bitOf z) ws1).take k ++ ws1.drop k).set k x).length = m2 := by
          rw [List.length_set, List.length_append, List.length_take, List.length_drop, turned_len, ← Hms'.out]; omega
        obtain ⟨y, ey⟩ : ∃ y, (((turned (bitOf z) ws1).take k ++ ws1.drop k).set k x)[k]? = some y := ⟨_, List.getElem?_eq_getElem (by rw [hml]; exact hlt)⟩
        have p0 := wY.cell ey hlt 0 _ rfl
        have p1 := wY.cell ey hlt 1 _ rfl
        have p2 := wY.cell ey hlt 2 _ rfl
        have p3 := wY.cell ey hlt 3 _ rfl
        have pf0 := wY.frozen (k * 4)
        have pf1 := wY.frozen (k * 4 + 1)
        have pf2 := wY.frozen (k * 4 + 2)
        have pf3 := wY.frozen (k * 4 + 3)
        rw [Nat.add_zero] at p0
        clear ey hml
        have HT := Lib.hid hT; clear hT
        go_upto_region 9 with (fail)
        refine wp_region_quiet_tail 17 (by kernel_rfl) (by kernel_rfl) ?_
        simp only [List.take_succ_cons, List.take_zero, List.drop_succ_cons, List.drop_zero]
        repeat go_big_quiet_step (fail)
        refine wpQuiet_nil ?_
        go_wp2
        have wZ := (wY.set hlt x.flip).drew
        rw [List.set_set, mixed_step HT.out hkl] at wZ
        go_roundw
        case rel =>
          refine ⟨k + 1, by go_num, by omega, (((((kY.setCell (p := ⟨g2, k * 4, none⟩) (by simp; omega) (.int .i64 x.c)).setCell (p := ⟨g2, k * 4 + 1, none⟩) (by simp; omega) (.int .i64 x.d)).setCell (p := ⟨g2, k * 4 + 2, none⟩) (by simp; omega) (.int .i64 x.a)).setCell (p := ⟨g2, k * 4 + 3, none⟩) (by simp; omega) (.int .i64 x.b))).drew,
            (((((bY.far (p := ⟨g2, k * 4, none⟩) (by simp; omega) (.int .i64 x.c)).far (p := ⟨g2, k * 4 + 1, none⟩) (by simp; omega) (.int .i64 x.d)).far (p := ⟨g2, k * 4 + 2, none⟩) (by simp; omega) (.int .i64 x.a)).far (p := ⟨g2, k * 4 + 3, none⟩) (by simp; omega) (.int .i64 x.b))).drew,
            (((((oY.far (p := ⟨g2, k * 4, none⟩) (by simp; omega) (.int .i64 x.c)).far (p := ⟨g2, k * 4 + 1, none⟩) (by simp; omega) (.int .i64 x.d)).far (p := ⟨g2, k * 4 + 2, none⟩) (by simp; omega) (.int .i64 x.a)).far (p := ⟨g2, k * 4 + 3, none⟩) (by simp; omega) (.int .i64 x.b))).drew,
            (((((rY.setCell (p := ⟨g2, k * 4, none⟩) (by simp; omega) (.int .i64 x.c)).setCell (p := ⟨g2, k * 4 + 1, none⟩) (by simp; omega) (.int .i64 x.d)).setCell (p := ⟨g2, k * 4 + 2, none⟩) (by simp; omega) (.int .i64 x.a)).setCell (p := ⟨g2, k * 4 + 3, none⟩) (by simp; omega) (.int .i64 x.b))).drew,
            Lib.hid fun g3 e => ?_⟩
          injection e with e
          injection e with e
          subst e
          exact wZ
        case measure => simp [intOf]; omega
    · obtain rfl : k = m2 := by omega
      obtain ⟨ws2, hws2⟩ : ∃ ws2, turned (bitOf z) ws1 = ws2 := ⟨_, rfl⟩
      have hturn : Turn ws1 ws2 := by rw [← hws2]; exact turned_turn _ _
      have hl2 : ws2.length = k := by rw [← hws2, turned_len, ← Hms'.out]
      have rU : Reads wr wr.heap.size 4 A2 k (wcells ws2) := by
        rcases Nat.eq_zero_or_pos k with h0 | h0
        · subst h0
          rw [List.eq_nil_of_length_eq_zero hl2]
          exact ⟨by simp [wcells], fun h => by omega⟩
        · obtain ⟨g2, rfl, hgB, hg2⟩ := Hform.out h0
          have := (WR.out g2 rfl).reads
          rw [hws2, List.take_of_length_le (by omega), List.drop_eq_nil_of_le (by rw [← Hms'.out]; exact Nat.le_refl _), List.append_nil] at this
          exact this
      have rS := rR.fix (by omega)
      clear WR Hform rR hws2 hl2
      obtain ⟨T, kT, hT, H10, H10'⟩ := turn_trees hturn N hn hl
      obtain ⟨C, kC, hC, H13, H13'⟩ := turn_children hturn N hn hl
      obtain ⟨mb, H18, H18'⟩ := turn_mays hturn N hn hl
      obtain ⟨P, Q, S, H20, H20'⟩ := turn_peers hturn N hn hl
      have HT := Lib.hid hT; clear hT
      have HC := Lib.hid hC; clear hC
      have G10 := Lib.hid H10; clear H10
      have G10' := Lib.hid H10'; clear H10'
      have G13 := Lib.hid H13; clear H13
      have G13' := Lib.hid H13'; clear H13'
      have G18 := Lib.hid H18; clear H18
      have G18' := Lib.hid H18'; clear H18'
      have G20 := Lib.hid H20; clear H20
      have G20' := Lib.hid H20'; clear H20'
      have G12 := Lib.hid same_self
      have Gw := Lib.hid lworks
      have hpe := portEq_self
      clear hturn
      have c10 := bR.cell 0
      have c11 := bR.cell 1
      have c12 := bR.cell 2
      have c13 := bR.cell 3
      simp at c10 c11 c12 c13
      have d10 := oR.cell 0
      have d11 := oR.cell 1
      have d12 := oR.cell 2
      have d13 := oR.cell 3
      simp at d10 d11 d12 d13
      have tok1 : True := trivial
      go_upto_region 13 with (first
        | (go_at_call 10; have _t := tok1; refine (G10.out _ _ _ _ rS (by omega)).mono ?_; clear tok1; rintro e w3 ⟨A3, c3, rfl, r3, hb3⟩
           have rS3 := rS.call hb3
           have rU3 := rU.call hb3
           have b3 := bR.call hb3
           have o3 := oR.call hb3
           have k3 := kR.call kR.size hb3
           have e10 := b3.cell 0
           have e11 := b3.cell 1
           have e12 := b3.cell 2
           have e13 := b3.cell 3
           simp at e10 e11 e12 e13
           have f10 := o3.cell 0
           have f11 := o3.cell 1
           have f12 := o3.cell 2
           have f13 := o3.cell 3
           simp at f10 f11 f12 f13
           )
        | (go_at_call 10; refine (G10'.out _ _ _ _ rU3 (by omega)).mono ?_; rintro e w4 ⟨A4, c4, rfl, r4, hb4⟩
           have rS4 := rS3.call hb4
           have rU4 := rU3.call hb4
           have r34 := r3.call hb4
           have b4 := b3.call hb4
           have o4 := o3.call hb4
           have k4 := k3.call k3.size hb4
           have g10 := b4.cell 0
           have g11 := b4.cell 1
           have g12 := b4.cell 2
           have g13 := b4.cell 3
           simp at g10 g11 g12 g13
           have h10 := o4.cell 0
           have h11 := o4.cell 1
           have h12 := o4.cell 2
           have h13 := o4.cell 3
           simp at h10 h11 h12 h13
           ))
      have lb4 := b4.lt
      have lo4 := o4.lt
      clear c10 c11 c12 c13 d10 d11 d12 d13 e10 e11 e12 e13 f10 f11 f12 f13 rS rU bR oR kR rS3 rU3 b3 o3 k3 r3 hb3 hb4
      go_cut [95] (fun s wx => s = .bool false ∧ Below w4.heap.size w4 wx)
      case first =>
        have rS5 : Reads w4.drew w4.drew.heap.size 4 A1 k (wcells ws1) := rS4
        have rU5 : Reads w4.drew w4.drew.heap.size 4 A2 k (wcells ws2) := rU4
        have r35 : Reads w4.drew w4.drew.heap.size 1 A3 T.length (icells T) := r34
        have r45 : Reads w4.drew w4.drew.heap.size 1 A4 T.length (icells T) := r4
        go_region_held3 (fun w' => w4.heap.size ≤ w'.heap.size ∧ ∀ b o, b < w4.heap.size → w'.cell? ⟨b, o, none⟩ = w4.cell? ⟨b, o, none⟩) (first | exact SBel.drew | exact SBel.drew.below hb1 | exact (SBel.drew.below hb1).below hb2 | exact ((SBel.drew.below hb1).below hb2).below hb3) (first
          | (go_at_call_of 18 (Value.agg #[.int .i64 N, .slice A1 k c1, .int .i64 hn, .int .i64 hl]); (with_reducible refine (G18.out _ _ _ _ rS5 (by omega)).mono ?_); rintro e w' ⟨rfl, hb1⟩)
          | (go_at_call_of 18 (Value.agg #[.int .i64 N, .slice A1 k c1, .int .i64 hn, .int .i64 hl]); (with_reducible refine (G18.out _ _ _ _ (rS5.call hb1) (by omega)).mono ?_); rintro e w'' ⟨rfl, hb2⟩)
          | (go_at_call_of 18 (Value.agg #[.int .i64 N, .slice A2 k c2, .int .i64 hn, .int .i64 hl]); (with_reducible refine (G18'.out _ _ _ _ rU5 (by omega)).mono ?_); rintro e w' ⟨rfl, hb1⟩)
          | (go_at_call_of 18 (Value.agg #[.int .i64 N, .slice A2 k c2, .int .i64 hn, .int .i64 hl]); (with_reducible refine (G18'.out _ _ _ _ (rU5.call hb1) (by omega)).mono ?_); rintro e w'' ⟨rfl, hb2⟩)
          | (go_at_call 12; refine (G12.out _ _ _ _ _ _ HT.out ((r35.call hb1).call hb2) ((r45.call hb1).call hb2)).mono ?_; rintro e w3 ⟨rfl, hb3⟩))
        all_goals
          go_wp2
          go_meet
          exact ⟨rfl, (((Below.refl w4.heap.size w4).drew.trans hb1).call hb1.size hb2).call (((Below.refl w4.heap.size w4).drew.trans hb1).call hb1.size hb2).size hb3⟩
      case rest =>
        obtain ⟨rfl, hbc⟩ := hcut
        have rS5 := rS4.call hbc
        have rU5 := rU4.call hbc
        have b5 := b4.call hbc
        have o5 := o4.call hbc
        have k5 := k4.call k4.size hbc
        clear g10 g11 g12 g13 h10 h11 h12 h13 rS4 rU4 b4 o4 k4 lb4 lo4 hbc G18 G18' G10 G10' r34 r4
        go_wp2
        go_loopw [12] (fun i wv => ∃ j : Nat, i = .int .i64 j ∧ j ≤ 32 ∧ Below w.heap.size w wv ∧ Blk wv w.heap.size 26 #[.int .i64 N, .slice A1 k c1, .int .i64 hn, .int .i64 hl] ∧ Blk wv g 26 #[.int .i64 N, .slice A2 k c2, .int .i64 hn, .int .i64 hl] ∧ Reads wv wv.heap.size 4 A1 k (wcells ws1) ∧ Reads wv wv.heap.size 4 A2 k (wcells ws2)) (fun i _ => 32 - (intOf i).toNat)
        case atStart => exact ⟨0, rfl, by omega, k5, b5, o5, rS5, rU5⟩
        case round =>
          clear k5 b5 o5 rS5 rU5
          obtain ⟨j, rfl, hj, kV, bV, oV, sV, uV⟩ := hrel
          have lb := bV.lt
          have lo := oV.lt
          have c10 := bV.cell 0
          have c11 := bV.cell 1
          have c12 := bV.cell 2
          have c13 := bV.cell 3
          simp at c10 c11 c12 c13
          have d10 := oV.cell 0
          have d11 := oV.cell 1
          have d12 := oV.cell 2
          have d13 := oV.cell 3
          simp at d10 d11 d12 d13
          by_cases hjl : j < 32
          · have hji : (j : Int) < 32 := by omega
            go_upto_region 19 with (fail)
            obtain ⟨pa, hpa⟩ : ∃ p, (j : Int) / 4 = p := ⟨_, rfl⟩
            obtain ⟨pb, hpb⟩ : ∃ p, (j : Int) % 4 = p := ⟨_, rfl⟩
            rw [hpa, hpb]
            have pW := Blk.new wr 24 #[.int .i64 pa, .int .i64 pb]
            have bW := bV.alloc (.cells #[.int .i64 pa, .int .i64 pb] 24)
            have oW := oV.alloc (.cells #[.int .i64 pa, .int .i64 pb] 24)
            have sW := sV.alloc' (.cells #[.int .i64 pa, .int .i64 pb] 24)
            have uW := uV.alloc' (.cells #[.int .i64 pa, .int .i64 pb] 24)
            have kW := kV.alloc kV.size (.cells #[.int .i64 pa, .int .i64 pb] 24)
            obtain ⟨X, hX⟩ : ∃ X, wr.alloc (.cells #[.int .i64 pa, .int .i64 pb] 24) = X := ⟨_, rfl⟩
            obtain ⟨gp, hgp⟩ : ∃ g, wr.heap.size = g := ⟨_, rfl⟩
            rw [hX] at pW bW oW sW uW kW ⊢
            rw [hgp] at pW ⊢
            clear hX hgp hpa hpb bV oV sV uV kV c10 c11 c12 c13 d10 d11 d12 d13 lb lo
            have lb := bW.lt
            have lo := oW.lt
            have lp := pW.lt
            have c10 := bW.cell 0
            have c11 := bW.cell 1
            have c12 := bW.cell 2
            have c13 := bW.cell 3
            simp at c10 c11 c12 c13
            have d10 := oW.cell 0
            have d11 := oW.cell 1
            have d12 := oW.cell 2
            have d13 := oW.cell 3
            simp at d10 d11 d12 d13
            have e10 := pW.cell 0
            have e11 := pW.cell 1
            simp at e10 e11
            have tk1 : True := trivial
            have tk2 : True := trivial
            go_wp2_with (first
              | (go_at_call 20; have _t := tk1; refine (G20.out _ _ _ _ _ _ sW (by omega)).mono ?_; clear tk1; rintro e wa ⟨rfl, hba⟩
                 have sA := (sW.call hba).alloc' (.cells #[.int .i64 (P pa pb), .int .i64 (Q pa pb)] 24)
                 have uA := (uW.call hba).alloc' (.cells #[.int .i64 (P pa pb), .int .i64 (Q pa pb)] 24)
                 have bA := bW.call hba
                 have oA := oW.call hba
                 have pA := pW.call hba
                 have kA := kW.call kW.size hba
                 have lbA := bA.lt
                 have loA := oA.lt
                 have lpA := pA.lt
                 have g10 := oA.cell 0
                 have g11 := oA.cell 1
                 have g12 := oA.cell 2
                 have g13 := oA.cell 3
                 simp at g10 g11 g12 g13
                 have h10 := pA.cell 0
                 have h11 := pA.cell 1
                 simp at h10 h11
                 )
              | (go_at_call 20; refine (G20'.out _ _ _ _ _ _ uA (by omega)).mono ?_; rintro e wb ⟨rfl, hbb⟩
                 have sB := (sA.call hbb).alloc' (.cells #[.int .i64 (P pa pb), .int .i64 (Q pa pb)] 24)
                 have uB := (uA.call hbb).alloc' (.cells #[.int .i64 (P pa pb), .int .i64 (Q pa pb)] 24)
                 have bB := (bA.alloc (.cells #[.int .i64 (P pa pb), .int .i64 (Q pa pb)] 24)).call hbb
                 have oB := (oA.alloc (.cells #[.int .i64 (P pa pb), .int .i64 (Q pa pb)] 24)).call hbb
                 have pB := (pA.alloc (.cells #[.int .i64 (P pa pb), .int .i64 (Q pa pb)] 24)).call hbb
                 have xB := (Blk.new wa 24 #[.int .i64 (P pa pb), .int .i64 (Q pa pb)]).call hbb
                 have kB := (kA.alloc kA.size (.cells #[.int .i64 (P pa pb), .int .i64 (Q pa pb)] 24)).call (by simp; have := kA.size; omega) hbb
                 have lbB := bB.lt
                 have lpB := pB.lt
                 have i10 := bB.cell 0
                 have i11 := bB.cell 1
                 have i12 := bB.cell 2
                 have i13 := bB.cell 3
                 simp at i10 i11 i12 i13
                 have j10 := pB.cell 0
                 have j11 := pB.cell 1
                 simp at j10 j11
                 )
              | (go_at_call 13; have _t := tk2; refine (G13.out _ _ _ _ _ sB (by omega)).mono ?_; clear tk2; rintro e wd ⟨A5, c5, rfl, r5, hbd⟩
                 have sD := sB.call hbd
                 have uD := uB.call hbd
                 have bD := (bB.alloc (.cells #[.int .i64 (P pa pb), .int .i64 (Q pa pb)] 24)).call hbd
                 have oD := (oB.alloc (.cells #[.int .i64 (P pa pb), .int .i64 (Q pa pb)] 24)).call hbd
                 have pD := (pB.alloc (.cells #[.int .i64 (P pa pb), .int .i64 (Q pa pb)] 24)).call hbd
                 have xD := (xB.alloc (.cells #[.int .i64 (P pa pb), .int .i64 (Q pa pb)] 24)).call hbd
                 have yD := (Blk.new wb 24 #[.int .i64 (P pa pb), .int .i64 (Q pa pb)]).call hbd
                 have kD := (kB.alloc kB.size (.cells #[.int .i64 (P pa pb), .int .i64 (Q pa pb)] 24)).call (by simp; have := kB.size; omega) hbd
                 have k10 := oD.cell 0
                 have k11 := oD.cell 1
                 have k12 := oD.cell 2
                 have k13 := oD.cell 3
                 simp at k10 k11 k12 k13
                 have l10 := pD.cell 0
                 have l11 := pD.cell 1
                 simp at l10 l11
                 )
              | (go_at_call 13; refine (G13'.out _ _ _ _ _ uD (by omega)).mono ?_; rintro e we ⟨A6, c6, rfl, r6, hbe⟩
                 have sE := sD.call hbe
                 have uE := uD.call hbe
                 have bE := bD.call hbe
                 have oE := oD.call hbe
                 have xE := xD.call hbe
                 have yE := yD.call hbe
                 have r56 := r5.call hbe
                 have kE := kD.call kD.size hbe
                 have m10 := xE.cell 0
                 have m11 := xE.cell 1
                 simp at m10 m11
                 have n10 := yE.cell 0
                 have n11 := yE.cell 1
                 simp at n10 n11
                 )
              | (go_at_call 12; refine (G12.out _ _ _ _ _ _ (HC.out _) r56 r6).mono ?_; rintro e wf ⟨rfl, hbf⟩
                 have sF := sE.call hbf
                 have uF := uE.call hbf
                 have bF := bE.call hbf
                 have oF := oE.call hbf
                 have kF := kE.call kE.size hbf
                 ))
            go_roundw
            case rel => exact ⟨j + 1, by go_num, by omega, kF, bF, oF, sF, uF⟩
            case measure => simp [intOf]; omega
          · go_wp2_with (first
              | (go_at_call 17; refine (Gw.out _).mono ?_; rintro e w4 ⟨rfl, hb4⟩
                 have k4 := kV.call kV.size hb4))
            go_ret
            exact ⟨rfl, k4⟩
end Go.Proofs.Ytadpenphiagdmaa
