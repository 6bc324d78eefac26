/- The network with its wires the other way round: turned, walked. -/
import Derived.Test.YtekamebpjjkifaaHK45
namespace Go.Proofs.Ytekamebpjjkifaa
open Go.RowKit Go.Maps
set_option linter.unusedSimpArgs false
set_option linter.unusedVariables false

/-- What turned answers. -/
def RetTn (t : TN) (w : World) (e : Ending) (w' : World) : Prop :=
  Below w.heap.size w w' ∧ ∃ (A : Option Addr) (c : Nat), e = .returned (.agg (t.with_ A c (turnW t.ws)).flat) ∧ (t.with_ A c (turnW t.ws)).In w' w'.heap.size
theorem wire_info : (Try.prog.info? 94).map (fun i => (i.zero, i.size, i.bytes)) = some (some (.agg #[.int .i64 0, .int .i64 0, .int .i64 0, .int .i64 0]), 4, 32) := by kernel_rfl
theorem topo_size' : (Try.prog.info? 40).map (·.size) = some 4 := by kernel_rfl
theorem turnW_len (ws : List Wire) : (turnW ws).length = ws.length := by simp [turnW]
theorem turnW_snoc {ws : List Wire} {n k j : Nat} {x : Wire} (hn : ws.length = n) (hj : j + k + 1 = n) (hx : ws[j]? = some x) : (turnW ws).take (k + 1) = (turnW ws).take k ++ [x.flip] := by
  rw [List.take_add_one]
  have : (turnW ws)[k]? = some x.flip := by
    unfold turnW
    rw [List.getElem?_reverse (by rw [List.length_map]; omega), List.length_map, List.getElem?_map, show ws.length - 1 - k = j by omega, hx]
    rfl
  rw [this]
  rfl
theorem wcells_snoc (l : List Wire) (x : Wire) : wcells (l ++ [x]) = wcells l ++ [.int .i64 x.a, .int .i64 x.b, .int .i64 x.c, .int .i64 x.d] := by
  simp [wcells, Wire.cells]
/-- While the wires are turned. -/
structure TuS (w W : World) (t : TN) (k : Nat) (v : Value) : Prop where
  bel : Below w.heap.size w W
  tb : Blk W w.heap.size 40 t.flat
  rb : Blk W (w.heap.size + 1) 40 #[.int .i64 0, .slice none 0 0, .int .i64 0, .int .i64 0]
  own : W.ownsRow (w.heap.size + 2) 94 4 v k (wcells ((turnW t.ws).take k))
theorem TuS.call {w W W1 : World} {t : TN} {k : Nat} {v : Value} (h : TuS w W t k v) (hb : Below W.heap.size W W1) : TuS w W1 t k v :=
  ⟨h.bel.trans (hb.mono h.bel.size), h.tb.call hb, h.rb.call hb, h.own.below hb⟩
theorem TuS.app {w W w' : World} {t : TN} {k n j : Nat} {v v' : Value} {x : Wire} (h : TuS w W t k v) (hn : t.ws.length = n) (hj : j + k + 1 = n) (hx : t.ws[j]? = some x)
    (ho : w'.ownsRow (w.heap.size + 2) 94 4 v' (k + 1) (wcells ((turnW t.ws).take k) ++ (#[.int .i64 x.c, .int .i64 x.d, .int .i64 x.a, .int .i64 x.b] : Array Value).toList)) (hb : Below (w.heap.size + 2) (W.alloc (.cells #[.int .i64 x.c, .int .i64 x.d, .int .i64 x.a, .int .i64 x.b] 94)) w') : TuS w w' t (k + 1) v' := by
  have hlr := h.rb.lt
  have hb2 : Below (w.heap.size + 2) W w' := ((Below.refl _ W).alloc (by omega) _).trans hb
  refine ⟨h.bel.trans (hb2.mono (by omega)), h.tb.below hb2 (by omega), h.rb.below hb2 (by omega), ?_⟩
  rw [turnW_snoc hn hj hx, wcells_snoc]
  exact ho
theorem wires_at {w : World} {B n : Nat} {A : Option Addr} {l : List Wire} (h : Reads w B 4 A n (wcells l)) (hn : l.length = n) {k : Nat} (hk : k < n) :
    ∃ b off x, A = some ⟨b, off, none⟩ ∧ b < B ∧ l[k]? = some x ∧ w.cell? ⟨b, off + k * 4, none⟩ = some (.int .i64 x.a) ∧ w.cell? ⟨b, off + k * 4 + 1, none⟩ = some (.int .i64 x.b) ∧ w.cell? ⟨b, off + k * 4 + 2, none⟩ = some (.int .i64 x.c) ∧ w.cell? ⟨b, off + k * 4 + 3, none⟩ = some (.int .i64 x.d) := by
  subst hn
  obtain ⟨b, off, x, h1, h2, h3, h4, hc⟩ := row_at (f := fun x : Wire => [Value.int .i64 x.a, .int .i64 x.b, .int .i64 x.c, .int .i64 x.d]) (fun _ => rfl) (by decide) h hk
  exact ⟨b, off, x, h1, h2, h3, hc 0 _ rfl, hc 1 _ rfl, hc 2 _ rfl, hc 3 _ rfl⟩
set_option maxRecDepth 100000 in
set_option maxHeartbeats 8000000 in
theorem lTurned (t : TN) (B : Nat) (w : World) (ht : t.In w B) (hB : B ≤ w.heap.size) (htw : t.ws.length ≤ 1000000) :
    Calls Try.prog 16 #[.agg t.flat] w (RetTn t w) := by
  obtain ⟨tN, tA, tc, tws, thn, thl⟩ := t
  simp only at htw
  obtain ⟨W0, hW0⟩ : ∃ W, (w.alloc (.cells (TN.flat ⟨tN, tA, tc, tws, thn, thl⟩) 40)).alloc (.cells #[.int .i64 0, .slice none 0 0, .int .i64 0, .int .i64 0] 40) = W := ⟨_, rfl⟩
  obtain ⟨l1, l2, l3⟩ := lay2 w (TN.flat ⟨tN, tA, tc, tws, thn, thl⟩) #[.int .i64 0, .slice none 0 0, .int .i64 0, .int .i64 0] 40 40
  have hz0 : W0.heap.size = w.heap.size + 2 := by rw [← hW0]; simp
  rw [hW0] at l1 l2 l3
  have S0 : Hid (TuS w W0 ⟨tN, tA, tc, tws, thn, thl⟩ 0 (.slice none 0 0)) := Lib.hid ⟨l1, l2, l3, World.ownsRow_nil _ _ _ _⟩
  obtain ⟨n, hn⟩ : ∃ q, tws.length = q := ⟨_, rfl⟩
  have HR : Hid (∀ w1, Below w.heap.size w w1 → Reads w1 B 4 tA n (wcells tws)) := Lib.hid fun w1 hb => by rw [← hn]; exact Reads.below ht (hb.mono hB)
  have HN := Lib.hid hn
  have HBW := Lib.hid hB
  have HTW := Lib.hid htw
  obtain ⟨i0, hi0, hz0', hz1, hz2⟩ := info_parts wire_info
  rw [hn] at HTW
  simp only [TN.flat] at l2 hW0 ⊢
  rw [hn] at l2 hW0 ⊢
  have e0 := l2.cell 0
  have e1 := l2.cell 1
  have e2 := l2.cell 2
  have e3 := l2.cell 3
  simp at e0 e1 e2 e3
  clear l1 l2 l3 ht hB htw hz0
  go_enter Try.func16, Try.ntmps16
  go_upto_region 3 with fail
  have hwn : wrap64 ((n : Int) - 1) = (n : Int) - 1 := by have := HTW.out; unfold wrap64; omega
  rw [hwn]
  clear hn hW0 e0 e1 e2 e3 hwn
  go_loopw [3, 4] (fun v i W => ∃ k : Nat, k ≤ n ∧ i = .int .i64 ((n : Int) - 1 - k) ∧ Hid (TuS w W ⟨tN, tA, tc, tws, thn, thl⟩ k v)) (fun _ i _ => (intOf i + 1).toNat)
  case atStart => exact ⟨0, Nat.zero_le _, by simp, S0⟩
  case round =>
    clear S0
    obtain ⟨k, hk, rfl, S⟩ := hrel
    have x1 := S.out.tb
    simp only [TN.flat] at x1
    rw [HN.out] at x1
    have e0 := x1.cell 0
    have e1 := x1.cell 1
    have e2 := x1.cell 2
    have e3 := x1.cell 3
    simp at e0 e1 e2 e3
    clear x1
    by_cases hlt : k < n
    · obtain ⟨j, hj⟩ : ∃ j : Nat, j + k + 1 = n := ⟨n - 1 - k, by omega⟩
      have hji : (n : Int) - 1 - (k : Int) = (j : Int) := by omega
      rw [hji]
      have hge : (0 : Int) ≤ (j : Int) := by omega
      have hjl : (j : Int) < (n : Int) := by omega
      obtain ⟨b, off, x, hA, hb, hx, c0, c1, c2, c3⟩ := wires_at (HR.out wr S.out.bel) HN.out (k := j) (by omega)
      have HX := Lib.hid hx
      have HJ := Lib.hid hj
      have HB := Lib.hid hb
      clear hji hx hj hb
      subst hA
      have hbw : b < wr.heap.size := by have := HB.out; have := HBW.out; have := S.out.bel.size; omega
      have hlz : w.heap.size + 2 ≤ wr.heap.size := by have := S.out.rb.lt; omega
      have E1 : wr.drew.cell? ⟨w.heap.size, 1, none⟩ = some (.slice (some ⟨b, off, none⟩) n tc) := e1
      have F0 : wr.drew.cell? ⟨b, off + j * 4, none⟩ = some (.int .i64 x.a) := c0
      have F1 : wr.drew.cell? ⟨b, off + j * 4 + 1, none⟩ = some (.int .i64 x.b) := c1
      have F2 : wr.drew.cell? ⟨b, off + j * 4 + 2, none⟩ = some (.int .i64 x.c) := c2
      have F3 : wr.drew.cell? ⟨b, off + j * 4 + 3, none⟩ = some (.int .i64 x.d) := c3
      have kq : Below wr.heap.size wr (wr.alloc (.cells #[.int .i64 x.c, .int .i64 x.d, .int .i64 x.a, .int .i64 x.b] 94)) := (Below.refl wr.heap.size wr).alloc (Nat.le_refl _) _
      have hbox : w.heap.size < wr.heap.size := by omega
      have q3 : (wr.alloc (.cells #[.int .i64 x.c, .int .i64 x.d, .int .i64 x.a, .int .i64 x.b] 94)).drew.cell? ⟨w.heap.size, 1, none⟩ = some (.slice (some ⟨b, off, none⟩) n tc) ∧ (wr.alloc (.cells #[.int .i64 x.c, .int .i64 x.d, .int .i64 x.a, .int .i64 x.b] 94)).drew.cell? ⟨b, off + j * 4, none⟩ = some (.int .i64 x.a) ∧ (wr.alloc (.cells #[.int .i64 x.c, .int .i64 x.d, .int .i64 x.a, .int .i64 x.b] 94)).drew.cell? ⟨b, off + j * 4 + 1, none⟩ = some (.int .i64 x.b) ∧ (wr.alloc (.cells #[.int .i64 x.c, .int .i64 x.d, .int .i64 x.a, .int .i64 x.b] 94)).drew.cell? ⟨b, off + j * 4 + 2, none⟩ = some (.int .i64 x.c) ∧ (wr.alloc (.cells #[.int .i64 x.c, .int .i64 x.d, .int .i64 x.a, .int .i64 x.b] 94)).drew.cell? ⟨b, off + j * 4 + 3, none⟩ = some (.int .i64 x.d) :=
        ⟨(kq.cell (p := ⟨w.heap.size, 1, none⟩) hbox).trans e1, (kq.cell (p := ⟨b, _, none⟩) hbw).trans c0, (kq.cell (p := ⟨b, _, none⟩) hbw).trans c1, (kq.cell (p := ⟨b, _, none⟩) hbw).trans c2, (kq.cell (p := ⟨b, _, none⟩) hbw).trans c3⟩
      have OW := Lib.hid (S.out.own.alloc (.cells #[.int .i64 x.c, .int .i64 x.d, .int .i64 x.a, .int .i64 x.b] 94)).drew'
      have bN := (Blk.new wr 94 #[.int .i64 x.c, .int .i64 x.d, .int .i64 x.a, .int .i64 x.b]).drew
      have ne1 : some w.heap.size ≠ u3.ownBlock := fun e => by have := (S.out.own.lt _ e.symm).1; omega
      have ne2 : some b ≠ u3.ownBlock := fun e => by have := (S.out.own.lt _ e.symm).1; have := HB.out; have := HBW.out; omega
      have hkn : k + 1 ≤ 1000000 := by have := HTW.out; omega
      have HWJ : Hid (wrap64 ((j : Int) - 1) = (n : Int) - 1 - ((k + 1 : Nat) : Int)) := Lib.hid (by have := HTW.out; have := HJ.out; unfold wrap64; omega)
      go_upto_region 5 with fail
      go_region_held3 (fun w' => w'.cell? ⟨w.heap.size, 1, none⟩ = some (.slice (some ⟨b, off, none⟩) n tc) ∧ w'.cell? ⟨b, off + j * 4, none⟩ = some (.int .i64 x.a) ∧ w'.cell? ⟨b, off + j * 4 + 1, none⟩ = some (.int .i64 x.b) ∧ w'.cell? ⟨b, off + j * 4 + 2, none⟩ = some (.int .i64 x.c) ∧ w'.cell? ⟨b, off + j * 4 + 3, none⟩ = some (.int .i64 x.d))
        (first | exact ⟨E1, F0, F1, F2, F3⟩ | exact q3 | exact ⟨hg.cell q3.1 ne1, hg.cell q3.2.1 ne2, hg.cell q3.2.2.1 ne2, hg.cell q3.2.2.2.1 ne2, hg.cell q3.2.2.2.2 ne2⟩)
        (first
          | (go_loud (refine step_app_own Try.underlying36 hi0 hz0' hz1 hz2 rfl (by decide) OW.out (by simp; omega) rfl (.tmp 13) (.tmp 27) rfl rfl wr.heap.size 1 1 #[.int .i64 x.c, .int .i64 x.d, .int .i64 x.a, .int .i64 x.b] rfl bN rfl (by simp [Value.oneCell']) (by omega) (by omega) ?_); intro v' w' hown hg hb4 hat))
      have hb5 : Below (w.heap.size + 2) (wr.alloc (.cells #[.int .i64 x.c, .int .i64 x.d, .int .i64 x.a, .int .i64 x.b] 94)) w' := ⟨hb4.os, hb4.tape, hb4.output, hb4.size, hb4.block⟩
      have S4 := Lib.hid (S.out.app HN.out HJ.out HX.out hown hb5)
      clear hown hg hb4 hat bN OW q3 kq E1 F0 F1 F2 F3 hb5 ne1 ne2
      go_wp2
      go_roundw
      case rel => exact ⟨k + 1, by omega, by rw [HWJ.out], S4⟩
      case measure => rw [HWJ.out]; have := HJ.out; simp [intOf]; omega
    · obtain rfl : k = n := by omega
      have hge : (k : Int) - 1 - (k : Int) = -1 := by omega
      rw [hge]
      obtain ⟨A9, c9, hv9⟩ := own_slice S.out.own
      subst hv9
      have b1 := S.out.tb
      have b2 := S.out.rb
      simp only [TN.flat] at b1
      rw [HN.out] at b1
      have f0 := b1.frozen 0
      have f1 := b1.frozen 1
      have f2 := b1.frozen 2
      have f3 := b1.frozen 3
      have d0 := b2.cell 0
      have d1 := b2.cell 1
      have d2 := b2.cell 2
      have d3 := b2.cell 3
      simp at d0 d1 d2 d3
      have g0 := b2.frozen 0
      have g1 := b2.frozen 1
      have g2 := b2.frozen 2
      have g3 := b2.frozen 3
      have HB1 := Lib.hid b1
      have HB2 := Lib.hid b2
      clear b1 b2 hge
      go_wp2
      have hne : ∀ b, b < w.heap.size + 2 → (Value.slice A9 k c9).ownBlock ≠ some b := fun b hb e => by have := (S.out.own.lt _ e).1; omega
      have o1 := ownsRow_setCell_other S.out.own (a := ⟨w.heap.size, 1, none⟩) (hne (w.heap.size) (by omega)) (.slice A9 k c9)
      have o2 := ownsRow_setCell_other o1 (a := ⟨w.heap.size + 1, 0, none⟩) (hne (w.heap.size + 1) (by omega)) (.int .i64 tN)
      have o3 := ownsRow_setCell_other o2 (a := ⟨w.heap.size + 1, 1, none⟩) (hne (w.heap.size + 1) (by omega)) (.slice A9 k c9)
      have o4 := ownsRow_setCell_other o3 (a := ⟨w.heap.size + 1, 2, none⟩) (hne (w.heap.size + 1) (by omega)) (.int .i64 thn)
      have o5 := ownsRow_setCell_other o4 (a := ⟨w.heap.size + 1, 3, none⟩) (hne (w.heap.size + 1) (by omega)) (.int .i64 thl)
      have bF := ((((HB2.out.far (p := ⟨w.heap.size, 1, none⟩) (by show w.heap.size + 1 ≠ w.heap.size; omega) (.slice A9 k c9)).set_ 0 (.int .i64 tN)).set_ 1 (.slice A9 k c9)).set_ 2 (.int .i64 thn)).set_ 3 (.int .i64 thl)
      have kF := ((((S.out.bel.setCell (p := ⟨w.heap.size, 1, none⟩) (Nat.le_refl _) (.slice A9 k c9)).setCell (p := ⟨w.heap.size + 1, 0, none⟩) (by simp) (.int .i64 tN)).setCell (p := ⟨w.heap.size + 1, 1, none⟩) (by simp) (.slice A9 k c9)).setCell (p := ⟨w.heap.size + 1, 2, none⟩) (by simp) (.int .i64 thn)).setCell (p := ⟨w.heap.size + 1, 3, none⟩) (by simp) (.int .i64 thl)
      simp only [List.setIfInBounds_toArray, List.set_cons_zero, List.set_cons_succ] at bF
      have rO := Reads.of_own o5
      rw [List.take_of_length_le (by rw [turnW_len, HN.out]; exact Nat.le_refl _)] at rO
      refine bodyPost_ret (v := .agg #[.int .i64 tN, .slice A9 k c9, .int .i64 thn, .int .i64 thl]) (results_cell_row rfl _ _ (w.heap.size + 1) _ _ (0, 0) _ rfl bF Try.underlying40 rfl topo_size') rfl ⟨kF, A9, c9, ?_, ?_⟩
      · simp [TN.with_, TN.flat, turnW_len, HN.out]
      · unfold TN.In TN.with_
        simp only [turnW_len, HN.out]
        exact rO
end Go.Proofs.Ytekamebpjjkifaa
