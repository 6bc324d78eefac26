/- The law TopoKnown walked. Printed by gen/known.py. -/
import Derived.Test.YtadpenphiagdmaaL6
namespace Go.Proofs.Ytadpenphiagdmaa
open Go.RowKit
set_option linter.unusedVariables false
set_option linter.unusedSimpArgs false

structure Net where
  N : Int
  A : Option Addr
  m : Nat
  c : Nat
  hn : Int
  hl : Int
  ws : List Wire
def Net.cells (x : Net) : List Value := [.int .i64 x.N, .slice x.A x.m x.c, .int .i64 x.hn, .int .i64 x.hl]
def netCells (l : List Net) : List Value := l.flatMap Net.cells
theorem netCells_get (ws : List Net) (k : Nat) (x : Net) (h : ws[k]? = some x) (j : Nat) (u : Value) (hj : x.cells[j]? = some u) : (netCells ws)[k * 4 + j]? = some u := by
  induction ws generalizing k with
  | nil => simp at h
  | cons y r ih =>
    have hlen : y.cells.length = 4 := rfl
    cases k with
    | zero =>
      simp at h; subst h
      have hjl : j < 4 := by
        rcases Nat.lt_or_ge j 4 with h | h
        · exact h
        · rw [List.getElem?_eq_none (by rw [hlen]; omega)] at hj; cases hj
      simp only [netCells, List.flatMap_cons]
      rw [List.getElem?_append_left (by rw [hlen]; omega)]
      simpa using hj
    | succ k =>
      simp at h
      simp only [netCells, List.flatMap_cons]
      rw [List.getElem?_append_right (by rw [hlen]; omega), hlen, show (k + 1) * 4 + j - 4 = k * 4 + j from by omega]
      exact ih k h
theorem Reads.blk {w : World} {g size n : Nat} {t : TypeId} {cs : Array Value} (h : Blk w g t cs) (hs : cs.size = n * size) : Reads w w.heap.size size (some ⟨g, 0, none⟩) n cs.toList := by
  refine ⟨by simpa using hs, fun _ => ⟨_, rfl, h.lt, fun j u hu => ?_⟩⟩
  have hadd : (⟨g, 0, none⟩ : Addr).add j = ⟨g, j, none⟩ := by unfold Addr.add; split <;> simp_all
  rw [hadd, h.cell j]
  simpa using hu

def AllNets (w : World) (l : List Net) : Prop := ∀ x ∈ l, Reads w w.heap.size 4 x.A x.m (wcells x.ws)
theorem AllNets.alloc {w : World} {l : List Net} (h : AllNets w l) (o : Obj) : AllNets (w.alloc o) l := fun x hx => (h x hx).alloc' o
theorem AllNets.call {w w' : World} {l : List Net} (h : AllNets w l) (k : Below w.heap.size w w') : AllNets w' l := fun x hx => (h x hx).call k
def nets (g1 g2 g3 g4 g5 g6 : Nat) : List Net := [⟨0, none, 0, 0, 0, 0, []⟩, ⟨2, none, 0, 0, 0, 0, []⟩, ⟨9, none, 0, 0, 0, 0, []⟩, ⟨1, none, 0, 0, 0, 4, []⟩, ⟨1, none, 0, 0, 1, 0, []⟩,
  ⟨1, some ⟨g1, 0, none⟩, 1, 1, 0, 0, [⟨0, 1, 0, 2⟩]⟩, ⟨2, some ⟨g2, 0, none⟩, 1, 1, 0, 0, [⟨0, 0, 1, 0⟩]⟩, ⟨2, some ⟨g3, 0, none⟩, 2, 2, 0, 0, [⟨0, 1, 1, 0⟩, ⟨0, 2, 1, 0⟩]⟩,
  ⟨2, some ⟨g4, 0, none⟩, 1, 1, 0, 0, [⟨0, 1, 1, 4⟩]⟩, ⟨2, some ⟨g5, 0, none⟩, 1, 1, 0, 0, [⟨0, 1, 2, 0⟩]⟩, ⟨3, some ⟨g6, 0, none⟩, 1, 1, 0, 0, [⟨1, 1, 2, 0⟩]⟩]
theorem nets_read {w : World} {g1 g2 g3 g4 g5 g6 : Nat} (b1 : Blk w g1 50 #[.int .i64 0, .int .i64 1, .int .i64 0, .int .i64 2]) (b2 : Blk w g2 50 #[.int .i64 0, .int .i64 0, .int .i64 1, .int .i64 0])
    (b3 : Blk w g3 50 #[.int .i64 0, .int .i64 1, .int .i64 1, .int .i64 0, .int .i64 0, .int .i64 2, .int .i64 1, .int .i64 0]) (b4 : Blk w g4 50 #[.int .i64 0, .int .i64 1, .int .i64 1, .int .i64 4])
    (b5 : Blk w g5 50 #[.int .i64 0, .int .i64 1, .int .i64 2, .int .i64 0]) (b6 : Blk w g6 50 #[.int .i64 1, .int .i64 1, .int .i64 2, .int .i64 0]) : AllNets w (nets g1 g2 g3 g4 g5 g6) := by
  intro x hx
  simp only [nets, List.mem_cons, List.not_mem_nil, or_false] at hx
  rcases hx with rfl | rfl | rfl | rfl | rfl | rfl | rfl | rfl | rfl | rfl | rfl
  · exact Reads.none_
  · exact Reads.none_
  · exact Reads.none_
  · exact Reads.none_
  · exact Reads.none_
  · exact Reads.blk b1 rfl
  · exact Reads.blk b2 rfl
  · exact Reads.blk b3 rfl
  · exact Reads.blk b4 rfl
  · exact Reads.blk b5 rfl
  · exact Reads.blk b6 rfl
theorem nets_bad (g1 g2 g3 g4 g5 g6 : Nat) : ∀ x ∈ nets g1 g2 g3 g4 g5 g6,
    (∀ w, Reads w w.heap.size 4 x.A x.m (wcells x.ws) → Calls Try.prog 10 #[.agg #[.int .i64 x.N, .slice x.A x.m x.c, .int .i64 x.hn, .int .i64 x.hl]] w (RetSE [] 2 w)) ∧
    (∀ w, Reads w w.heap.size 4 x.A x.m (wcells x.ws) → Calls Try.prog 18 #[.agg #[.int .i64 x.N, .slice x.A x.m x.c, .int .i64 x.hn, .int .i64 x.hl]] w (RetV (.bool false) w)) := by
  have key : ∀ x : Net, mayB x.N x.ws x.hn x.hl = false → x.m ≤ 1000000 → 
    (∀ w, Reads w w.heap.size 4 x.A x.m (wcells x.ws) → Calls Try.prog 10 #[.agg #[.int .i64 x.N, .slice x.A x.m x.c, .int .i64 x.hn, .int .i64 x.hl]] w (RetSE [] 2 w)) ∧
    (∀ w, Reads w w.heap.size 4 x.A x.m (wcells x.ws) → Calls Try.prog 18 #[.agg #[.int .i64 x.N, .slice x.A x.m x.c, .int .i64 x.hn, .int .i64 x.hl]] w (RetV (.bool false) w)) := fun x h hm =>
      ⟨fun w hr => by have := tTree x.N x.hn x.hl x.A x.m x.c x.ws w hr hm; simpa [tTreeR, h] using this, fun w hr => by have := tmay x.N x.hn x.hl x.A x.m x.c x.ws w hr hm; simpa [h] using this⟩
  intro x hx
  refine key x ?_ ?_
  · simp only [nets, List.mem_cons, List.not_mem_nil, or_false] at hx
    rcases hx with rfl | rfl | rfl | rfl | rfl | rfl | rfl | rfl | rfl | rfl | rfl <;> (dsimp only; decide)
  · simp only [nets, List.mem_cons, List.not_mem_nil, or_false] at hx
    rcases hx with rfl | rfl | rfl | rfl | rfl | rfl | rfl | rfl | rfl | rfl | rfl <;> simp
set_option maxRecDepth 100000 in
set_option maxHeartbeats 4000000 in
theorem known_walk (w : World) : Calls Try.prog 8 #[] w (RetV (.bool true) w) := by
  have H24 := Lib.hid lthree3
  have H17 := Lib.hid lworks
  have HW := Lib.hid lwire
  have H20a : Hid (∀ A c w, Reads w w.heap.size 4 A 3 (wcells threeW) → Calls Try.prog 20 #[.agg #[.int .i64 3, .slice A 3 c, .int .i64 0, .int .i64 0], .agg #[.int .i64 0, .int .i64 0]] w (RetV (.tuple #[.agg #[.int .i64 0, .int .i64 0], .bool false]) w)) :=
    Lib.hid fun A c w hr => tPeer 3 0 0 0 0 A 3 c threeW w hr (by decide)
  have H20b : Hid (∀ A c w, Reads w w.heap.size 4 A 3 (wcells threeW) → Calls Try.prog 20 #[.agg #[.int .i64 3, .slice A 3 c, .int .i64 0, .int .i64 0], .agg #[.int .i64 2, .int .i64 0]] w (RetV (.tuple #[.agg #[.int .i64 0, .int .i64 0], .bool false]) w)) :=
    Lib.hid fun A c w hr => tPeer 3 0 0 2 0 A 3 c threeW w hr (by decide)
  have H13a : Hid (∀ A c w, Reads w w.heap.size 4 A 3 (wcells threeW) → Calls Try.prog 13 #[.agg #[.int .i64 3, .slice A 3 c, .int .i64 0, .int .i64 0], .int .i64 (1)] w (RetSE [] 0 w)) :=
    Lib.hid fun A c w hr => tChildren 3 0 0 A 3 c threeW (1) w hr (by decide)
  have H13b : Hid (∀ A c w, Reads w w.heap.size 4 A 3 (wcells threeW) → Calls Try.prog 13 #[.agg #[.int .i64 3, .slice A 3 c, .int .i64 0, .int .i64 0], .int .i64 (-1)] w (RetSE [] 4 w)) :=
    Lib.hid fun A c w hr => tChildren 3 0 0 A 3 c threeW (-1) w hr (by decide)
  have H15a : Hid (∀ A c w, Reads w w.heap.size 4 A 3 (wcells threeW) → Calls Try.prog 15 #[.agg #[.int .i64 3, .slice A 3 c, .int .i64 0, .int .i64 0], .int .i64 2, .int .i64 2] w (RetSE [] 0 w)) :=
    Lib.hid fun A c w hr => tRoute 3 0 0 A 3 c threeW 2 2 w hr (by decide)
  have H15b : Hid (∀ A c w, Reads w w.heap.size 4 A 3 (wcells threeW) → Calls Try.prog 15 #[.agg #[.int .i64 3, .slice A 3 c, .int .i64 0, .int .i64 0], .int .i64 3, .int .i64 0] w (RetSE [] 4 w)) :=
    Lib.hid fun A c w hr => tRoute 3 0 0 A 3 c threeW 3 0 w hr (by decide)
  have H10 : Hid (∀ w, Calls Try.prog 10 #[.agg #[.int .i64 1, .slice none 0 0, .int .i64 0, .int .i64 3]] w (RetSE [3] 0 w)) := Lib.hid fun w => tTree 1 0 3 none 0 0 [] w Reads.none_ (by decide)
  have H18 : Hid (∀ w, Calls Try.prog 18 #[.agg #[.int .i64 1, .slice none 0 0, .int .i64 0, .int .i64 3]] w (RetV (.bool true) w)) := Lib.hid fun w => tmay 1 0 3 none 0 0 [] w Reads.none_ (by decide)
  have H12 : Hid (∀ A B c d w, Reads w w.heap.size 1 A 1 (icells [3]) → Reads w w.heap.size 1 B 1 (icells [3]) → Calls Try.prog 12 #[.slice A 1 c, .slice B 1 d] w (RetV (.bool true) w)) :=
    Lib.hid fun A B c d w h1 h2 => rSame A B 1 c 1 d _ _ w h1 h2 (by decide)
  go_enter Try.func8, Try.ntmps8
  go_upto_region 12 with (first
    | (go_at_call 24; refine (H24.out _).mono ?_; clear H24; rintro e w1 ⟨A, c, rfl, r_1, hb1⟩
       have k1 := hb1
       )
    | (go_at_call 20; refine (H20a.out _ _ _ (r_1.alloc' _)).mono ?_; clear H20a; rintro e w2 ⟨rfl, hb2⟩
       have k2 := (k1.alloc k1.size _).call (by simp; have := k1.size; omega) hb2
       have r_2 := (r_1.alloc' _).call hb2
       have t_2 := (Blk.new w1 26 _).call hb2
       have lt_2 := t_2.lt
       have ct2_0 := t_2.cell 0
       have ct2_1 := t_2.cell 1
       have ct2_2 := t_2.cell 2
       have ct2_3 := t_2.cell 3
       simp at ct2_0 ct2_1 ct2_2 ct2_3
       )
    | (go_at_call 20; refine (H20b.out _ _ _ (r_2.alloc' _)).mono ?_; clear H20b; rintro e w3 ⟨rfl, hb3⟩
       have k3 := (k2.alloc k2.size _).call (by simp; have := k2.size; omega) hb3
       have t_3 := (t_2.alloc _).call hb3
       have r_3 := (r_2.alloc' _).call hb3
       have lt_3 := t_3.lt
       have ct3_0 := t_3.cell 0
       have ct3_1 := t_3.cell 1
       have ct3_2 := t_3.cell 2
       have ct3_3 := t_3.cell 3
       simp at ct3_0 ct3_1 ct3_2 ct3_3
       )
    | (go_at_call 13; refine (H13a.out _ _ _ (r_3.alloc' _)).mono ?_; clear H13a; rintro e w4 ⟨A4, c4, rfl, r4, hb4⟩
       have k4 := (k3.alloc k3.size _).call (by simp; have := k3.size; omega) hb4
       have t_4 := (t_3.alloc _).call hb4
       have r_4 := (r_3.alloc' _).call hb4
       have lt_4 := t_4.lt
       have ct4_0 := t_4.cell 0
       have ct4_1 := t_4.cell 1
       have ct4_2 := t_4.cell 2
       have ct4_3 := t_4.cell 3
       simp at ct4_0 ct4_1 ct4_2 ct4_3
       )
    | (go_at_call 15; refine (H15a.out _ _ _ r_4).mono ?_; clear H15a; rintro e w5 ⟨A5, c5, rfl, r5, hb5⟩
       have k5 := k4.call k4.size hb5
       have t_5 := t_4.call hb5
       have r_5 := r_4.call hb5
       have lt_5 := t_5.lt
       have ct5_0 := t_5.cell 0
       have ct5_1 := t_5.cell 1
       have ct5_2 := t_5.cell 2
       have ct5_3 := t_5.cell 3
       simp at ct5_0 ct5_1 ct5_2 ct5_3
       )
    | (go_at_call 15; refine (H15b.out _ _ _ r_5).mono ?_; clear H15b; rintro e w6 ⟨A6, c6, rfl, r6, hb6⟩
       have k6 := k5.call k5.size hb6
       have t_6 := t_5.call hb6
       have r_6 := r_5.call hb6
       have lt_6 := t_6.lt
       have ct6_0 := t_6.cell 0
       have ct6_1 := t_6.cell 1
       have ct6_2 := t_6.cell 2
       have ct6_3 := t_6.cell 3
       simp at ct6_0 ct6_1 ct6_2 ct6_3
       )
    | (go_at_call 13; refine (H13b.out _ _ _ r_6).mono ?_; clear H13b; rintro e w7 ⟨A7, c7, rfl, r7, hb7⟩
       have k7 := k6.call k6.size hb7
       have t_7 := t_6.call hb7
       have r_7 := r_6.call hb7
       )
    | (go_at_call 10; refine (H10.out _).mono ?_; clear H10; rintro e w8 ⟨A8, c8, rfl, s_8, hb8⟩
       have k8 := (k7.alloc k7.size _).call (by simp; have := k7.size; omega) hb8
       have u_8 := (Blk.new w7 26 _).call hb8
       have lu_8 := u_8.lt
       have cu8_0 := u_8.cell 0
       have cu8_1 := u_8.cell 1
       have cu8_2 := u_8.cell 2
       have cu8_3 := u_8.cell 3
       simp at cu8_0 cu8_1 cu8_2 cu8_3
       )
    | (go_at_call 18; refine (H18.out _).mono ?_; clear H18; rintro e w9 ⟨rfl, hb9⟩
       have k9 := k8.call k8.size hb9
       have u_9 := u_8.call hb9
       have s_9 := s_8.call hb9
       )
    | (go_at_call 12; refine (H12.out _ _ _ _ _ (s_9.alloc' _) (Reads.lit (by rfl))).mono ?_; clear H12; rintro e w10 ⟨rfl, hb10⟩
       have k10 := (k9.alloc k9.size _).call (by simp; have := k9.size; omega) hb10
       have u_10 := (u_9.alloc _).call hb10
       have s_10 := (s_9.alloc' _).call hb10
       )
    )

  go_wp2_with (first
    | (go_at_call 25; refine (HW.out _ _ _ _ w10).mono ?_; rintro e w11 ⟨rfl, hb11⟩
       have k11 := k10.call k10.size hb11
       )
    | (go_at_call 25; refine (HW.out _ _ _ _ (w11.alloc _)).mono ?_; rintro e w12 ⟨rfl, hb12⟩
       have k12 := (k11.alloc k11.size _).call (by simp; have := k11.size; omega) hb12
       have b1_12 := (Blk.new w11 50 _).call hb12
       )
    | (go_at_call 25; refine (HW.out _ _ _ _ (w12.alloc _)).mono ?_; rintro e w13 ⟨rfl, hb13⟩
       have k13 := (k12.alloc k12.size _).call (by simp; have := k12.size; omega) hb13
       have b1_13 := (b1_12.alloc _).call hb13
       have b2_13 := (Blk.new w12 50 _).call hb13
       )
    | (go_at_call 25; refine (HW.out _ _ _ _ w13).mono ?_; rintro e w14 ⟨rfl, hb14⟩
       have k14 := k13.call k13.size hb14
       have b1_14 := b1_13.call hb14
       have b2_14 := b2_13.call hb14
       )
    | (go_at_call 25; refine (HW.out _ _ _ _ (w14.alloc _)).mono ?_; rintro e w15 ⟨rfl, hb15⟩
       have k15 := (k14.alloc k14.size _).call (by simp; have := k14.size; omega) hb15
       have b1_15 := (b1_14.alloc _).call hb15
       have b2_15 := (b2_14.alloc _).call hb15
       have b3_15 := (Blk.new w14 50 _).call hb15
       )
    | (go_at_call 25; refine (HW.out _ _ _ _ (w15.alloc _)).mono ?_; rintro e w16 ⟨rfl, hb16⟩
       have k16 := (k15.alloc k15.size _).call (by simp; have := k15.size; omega) hb16
       have b1_16 := (b1_15.alloc _).call hb16
       have b2_16 := (b2_15.alloc _).call hb16
       have b3_16 := (b3_15.alloc _).call hb16
       have b4_16 := (Blk.new w15 50 _).call hb16
       )
    | (go_at_call 25; refine (HW.out _ _ _ _ (w16.alloc _)).mono ?_; rintro e w17 ⟨rfl, hb17⟩
       have k17 := (k16.alloc k16.size _).call (by simp; have := k16.size; omega) hb17
       have b1_17 := (b1_16.alloc _).call hb17
       have b2_17 := (b2_16.alloc _).call hb17
       have b3_17 := (b3_16.alloc _).call hb17
       have b4_17 := (b4_16.alloc _).call hb17
       have b5_17 := (Blk.new w16 50 _).call hb17
       )
    )
  have kV := (k17.alloc k17.size (.cells #[.int .i64 1, .int .i64 1, .int .i64 2, .int .i64 0] 50)).alloc (by simp; have := k17.size; omega) (.cells (netCells (nets w11.heap.size w12.heap.size w14.heap.size w15.heap.size w16.heap.size w17.heap.size)).toArray 26)
  have bV := Blk.new (w17.alloc (.cells #[.int .i64 1, .int .i64 1, .int .i64 2, .int .i64 0] 50)) 26 (netCells (nets w11.heap.size w12.heap.size w14.heap.size w15.heap.size w16.heap.size w17.heap.size)).toArray
  have b6 := Blk.new w17 50 #[.int .i64 1, .int .i64 1, .int .i64 2, .int .i64 0]
  have nV := nets_read ((b1_17.alloc (.cells #[.int .i64 1, .int .i64 1, .int .i64 2, .int .i64 0] 50)).alloc (.cells (netCells (nets w11.heap.size w12.heap.size w14.heap.size w15.heap.size w16.heap.size w17.heap.size)).toArray 26)) ((b2_17.alloc _).alloc _) ((b3_17.alloc _).alloc _) ((b4_17.alloc _).alloc _) ((b5_17.alloc _).alloc _) (b6.alloc _)
  have nB := nets_bad w11.heap.size w12.heap.size w14.heap.size w15.heap.size w16.heap.size w17.heap.size
  have nL : (nets w11.heap.size w12.heap.size w14.heap.size w15.heap.size w16.heap.size w17.heap.size).length = 11 := rfl
  simp only [World.size_alloc] at bV
  obtain ⟨gB, hgB⟩ : ∃ g, w17.heap.size + 1 = g := ⟨_, rfl⟩
  obtain ⟨L, hL⟩ : ∃ L, nets w11.heap.size w12.heap.size w14.heap.size w15.heap.size w16.heap.size w17.heap.size = L := ⟨_, rfl⟩
  have e : ((w17.alloc (.cells #[.int .i64 1, .int .i64 1, .int .i64 2, .int .i64 0] 50)).alloc (.cells (netCells (nets w11.heap.size w12.heap.size w14.heap.size w15.heap.size w16.heap.size w17.heap.size)).toArray 26)) = ((w17.alloc (.cells #[.int .i64 1, .int .i64 1, .int .i64 2, .int .i64 0] 50)).alloc (.cells #[.int .i64 0, .slice none 0 0, .int .i64 0, .int .i64 0, .int .i64 2, .slice none 0 0, .int .i64 0, .int .i64 0, .int .i64 9, .slice none 0 0, .int .i64 0, .int .i64 0, .int .i64 1, .slice none 0 0, .int .i64 0, .int .i64 4, .int .i64 1, .slice none 0 0, .int .i64 1, .int .i64 0,
      .int .i64 1, .slice (some ⟨w11.heap.size, 0, none⟩) 1 1, .int .i64 0, .int .i64 0, .int .i64 2, .slice (some ⟨w12.heap.size, 0, none⟩) 1 1, .int .i64 0, .int .i64 0, .int .i64 2, .slice (some ⟨w14.heap.size, 0, none⟩) 2 2, .int .i64 0, .int .i64 0, .int .i64 2, .slice (some ⟨w15.heap.size, 0, none⟩) 1 1, .int .i64 0, .int .i64 0, .int .i64 2, .slice (some ⟨w16.heap.size, 0, none⟩) 1 1, .int .i64 0, .int .i64 0, .int .i64 3, .slice (some ⟨w17.heap.size, 0, none⟩) 1 1, .int .i64 0, .int .i64 0] 26)) := rfl
  rw [e] at kV bV nV
  rw [hL] at bV nV nB nL
  rw [hgB] at bV ⊢
  clear e hL hgB
  obtain ⟨V, hV⟩ : ∃ V, (w17.alloc (.cells #[.int .i64 1, .int .i64 1, .int .i64 2, .int .i64 0] 50)).alloc (.cells #[.int .i64 0, .slice none 0 0, .int .i64 0, .int .i64 0, .int .i64 2, .slice none 0 0, .int .i64 0, .int .i64 0, .int .i64 9, .slice none 0 0, .int .i64 0, .int .i64 0, .int .i64 1, .slice none 0 0, .int .i64 0, .int .i64 4, .int .i64 1, .slice none 0 0, .int .i64 1, .int .i64 0,
      .int .i64 1, .slice (some ⟨w11.heap.size, 0, none⟩) 1 1, .int .i64 0, .int .i64 0, .int .i64 2, .slice (some ⟨w12.heap.size, 0, none⟩) 1 1, .int .i64 0, .int .i64 0, .int .i64 2, .slice (some ⟨w14.heap.size, 0, none⟩) 2 2, .int .i64 0, .int .i64 0, .int .i64 2, .slice (some ⟨w15.heap.size, 0, none⟩) 1 1, .int .i64 0, .int .i64 0, .int .i64 2, .slice (some ⟨w16.heap.size, 0, none⟩) 1 1, .int .i64 0, .int .i64 0, .int .i64 3, .slice (some ⟨w17.heap.size, 0, none⟩) 1 1, .int .i64 0, .int .i64 0] 26) = V := ⟨_, rfl⟩
  rw [hV] at kV bV nV ⊢
  clear hV b1_17 b2_17 b3_17 b4_17 b5_17 b6 k17
  have HL := Lib.hid nL; clear nL
  have HB := Lib.hid nB; clear nB
  go_loopw [14, 137] (fun s i wr => ∃ k : Nat, s = .bool true ∧ i = .int .i64 k ∧ k ≤ 11 ∧ Below w.heap.size w wr ∧ Blk wr gB 26 (netCells L).toArray ∧ AllNets wr L) (fun _ i _ => 11 - (intOf i).toNat)
  case atStart => exact ⟨0, rfl, rfl, by omega, kV, bV, nV⟩
  case round =>
    obtain ⟨k, rfl, rfl, hk, kB, bB, nB⟩ := hrel
    clear kV bV nV
    by_cases hlt : k < 11
    · have h1 : (k : Int) < 11 := by omega
      obtain ⟨x, hx⟩ : ∃ x, L[k]? = some x := ⟨_, List.getElem?_eq_getElem (by rw [HL.out]; exact hlt)⟩
      have c0 := (bB.cell (k * 4)).trans (List.getElem?_toArray.trans (netCells_get L k x hx 0 _ rfl))
      have c1 := (bB.cell (k * 4 + 1)).trans (List.getElem?_toArray.trans (netCells_get L k x hx 1 _ rfl))
      have c2 := (bB.cell (k * 4 + 2)).trans (List.getElem?_toArray.trans (netCells_get L k x hx 2 _ rfl))
      have c3 := (bB.cell (k * 4 + 3)).trans (List.getElem?_toArray.trans (netCells_get L k x hx 3 _ rfl))
      have lB := bB.lt
      have rx := nB x (List.mem_of_getElem? hx)
      have H10 := Lib.hid (HB.out x (List.mem_of_getElem? hx)).1
      have H18 := Lib.hid (HB.out x (List.mem_of_getElem? hx)).2
      have Hx := Lib.hid hx; clear hx
      go_wp2_with (first
        | (go_at_call 10; refine (H10.out _ (rx.alloc' _)).mono ?_; rintro e w2 ⟨A2, c2, rfl, r2, hb2⟩
           have b2 := (bB.alloc _).call hb2
           have n2 := (nB.alloc _).call hb2
           have r2 := (rx.alloc' _).call hb2
           have k2 := (kB.alloc kB.size _).call (by simp; have := kB.size; omega) hb2
           have q2 := (Blk.new wr 26 _).call hb2
           have lq := q2.lt
           have d0 := q2.cell 0
           have d1 := q2.cell 1
           have d2 := q2.cell 2
           have d3 := q2.cell 3
           simp at d0 d1 d2 d3
           )
        | (go_at_call 18; refine (H18.out _ r2).mono ?_; rintro e w3 ⟨rfl, hb3⟩
           have b3 := b2.call hb3
           have n3 := n2.call hb3
           have k3 := k2.call k2.size hb3))
      go_roundw
      case rel => exact ⟨k + 1, rfl, by go_num, by omega, k3, b3, n3⟩
      case measure => simp [intOf]; omega
    · have H24' := Lib.hid lthree3
      have H18' : Hid (∀ A c w, Reads w w.heap.size 4 A 3 (wcells threeW) → Calls Try.prog 18 #[.agg #[.int .i64 3, .slice A 3 c, .int .i64 0, .int .i64 3]] w (RetV (.bool false) w)) := Lib.hid fun A c w hr => tmay 3 0 3 A 3 c threeW w hr (by decide)
      go_wp2_with (first
        | (go_at_call 24; refine (H24'.out _).mono ?_; rintro e w2 ⟨A2, c2, rfl, r2, hb2⟩
           have k2 := kB.call kB.size hb2)
        | (go_at_call 18; refine (H18'.out _ _ _ (r2.alloc' _)).mono ?_; rintro e w3 ⟨rfl, hb3⟩
           have k3 := (k2.alloc k2.size _).call (by simp; have := k2.size; omega) hb3)
        | (go_at_call 17; refine (H17.out _).mono ?_; rintro e w4 ⟨rfl, hb4⟩
           have k4 := k3.call k3.size hb4))
      go_ret
      exact ⟨rfl, k4⟩
end Go.Proofs.Ytadpenphiagdmaa
