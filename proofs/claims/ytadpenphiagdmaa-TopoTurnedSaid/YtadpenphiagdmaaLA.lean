/- The law TopoNear walked. -/
import Derived.Test.YtadpenphiagdmaaL9
import Derived.Test.YtadpenphiagdmaaP9
namespace Go.Proofs.Ytadpenphiagdmaa
open Go.RowKit
set_option linter.unusedVariables false
set_option linter.unusedSimpArgs false

theorem Blk.int_at {w : World} {g t : Nat} {l : List Int} {i : Nat} {x : Int} (h : Blk w g t (icells l).toArray) (hx : l[i]? = some x) : w.cell? ⟨g, i, none⟩ = some (.int .i64 x) := by
  rw [h.cell i, List.getElem?_toArray]; exact icells_get hx
theorem icells_set (l : List Int) (i : Nat) (x : Int) : (icells l).toArray.setIfInBounds i (.int .i64 x) = (icells (l.set i x)).toArray := by
  rw [List.setIfInBounds_toArray, icells, icells, List.map_set]
theorem made_ints (n : Nat) : madeCells (Value.int .i64 0).cells n = (icells (List.replicate n 0)).toArray := by
  rw [made_zero]; simp [icells]
theorem Reads.fix {w : World} {B size n : Nat} {A : Option Addr} {xs : List Value} (h : Reads w B size A n xs) (hB : B ≤ w.heap.size) : Reads w w.heap.size size A n xs := h.more hB
theorem Reads.keepB {w w' : World} {B C size n : Nat} {A : Option Addr} {xs : List Value} (h : Reads w B size A n xs) (k : Below C w w') (hB : B ≤ C) : Reads w' B size A n xs := h.below (k.mono hB)
/-- A list of so many numbers in memory of the call's own, and a number, handed back. -/
def RetLF (n : Nat) (xs : List Int) (k : Int) (w : World) (e : Ending) (w' : World) : Prop :=
  ∃ A c, e = .returned (.tuple #[.slice A n c, .int .i64 k]) ∧ w'.ownsRow w.heap.size 3 1 (.slice A n c) n (icells xs) ∧ Below w.heap.size w w'
theorem child_call {N hn hl : Int} {ws : List Wire} {L : List Int} {n : Nat} (h : mayB N ws hn hl = true) {x : Int} (h0 : 0 ≤ x) (h1 : x < N) (hL : rchildren ws hn hl x 4 = L) (hLn : L.length = n) : ∀ A m c w, Reads w w.heap.size 4 A m (wcells ws) → m ≤ 1000000 → Calls Try.prog 13 #[.agg #[.int .i64 N, .slice A m c, .int .i64 hn, .int .i64 hl], .int .i64 x] w (RetLF n L 0 w) :=
  fun A m c w hr hm => by
    subst hL hLn
    have := tChildrenF N hn hl A m c ws x w hr hm
    rw [tChildrenR_eq] at this
    have e : rChildrenR N ws hn hl x = (rchildren ws hn hl x 4, 0) := by simp only [rChildrenR, h, if_true]; rw [if_neg (by omega)]
    rw [e] at this
    exact this
theorem peer_call {N hn hl : Int} {ws : List Wire} (h : mayB N ws hn hl = true) {a b p q : Int} (hp : peerL ws a b = some (p, q)) : ∀ A m c w, Reads w w.heap.size 4 A m (wcells ws) → m ≤ 1000000 →
    Calls Try.prog 20 #[.agg #[.int .i64 N, .slice A m c, .int .i64 hn, .int .i64 hl], .agg #[.int .i64 a, .int .i64 b]] w (RetV (.tuple #[.agg #[.int .i64 p, .int .i64 q], .bool true]) w) := fun A m c w hr hm => by
  have := tPeer N hn hl a b A m c ws w hr hm
  have e : rpeerOf N ws hn hl a b = some (p, q) := by simp only [rpeerOf, h, if_true]; exact hp
  rwa [e] at this
theorem dep_call {N hn hl : Int} {ws : List Wire} (h : mayB N ws hn hl = true) {x : Int} (h0 : 0 ≤ x) (h1 : x < N) : ∃ (n : Nat) (l : List Int), (n : Int) = fdep ws hn hl x ∧ n ≤ 100 ∧ ∀ A m c w, Reads w w.heap.size 4 A m (wcells ws) → m ≤ 1000000 →
    Calls Try.prog 15 #[.agg #[.int .i64 N, .slice A m c, .int .i64 hn, .int .i64 hl], .int .i64 x, .int .i64 hn] w (RetL n l (.int .i64 0) w) := by
  obtain ⟨h2, h3⟩ := route_dep h ⟨h0, h1⟩
  have hl1 := rRouteR_len N hn hl x hn ws
  refine ⟨(rRouteR N ws hn hl x hn).1.length, (rRouteR N ws hn hl x hn).1, by unfold fdep; omega, hl1, route_call (k := 0) ?_ rfl⟩
  rw [← h2]
set_option maxRecDepth 100000 in
set_option maxHeartbeats 4000000 in
theorem near_walk (N hn hl : Int) (A : Option Addr) (m c : Nat) (ws : List Wire) (w : World) (hr : Reads w w.heap.size 4 A m (wcells ws)) (hmc : m ≤ c) (hc : c ≤ maxLen) :
    Calls Try.prog 6 #[.agg #[.int .i64 N, .slice A m c, .int .i64 hn, .int .i64 hl]] w (RetV (.bool true) w) := by
  obtain ⟨i0, hi0, hz0, hz1, hz2⟩ := info_parts int_info
  obtain ⟨k0, b0⟩ := lay1 w #[.int .i64 N, .slice A m c, .int .i64 hn, .int .i64 hl] 26
  have h40 : (ws.take 40).length ≤ 40 := by rw [List.length_take]; omega
  have H9 := lcopied N hn hl A m c ws (w.alloc (.cells #[.int .i64 N, .slice A m c, .int .i64 hn, .int .i64 hl] 26)) (hr.up k0 k0.size) hmc hc
  obtain ⟨ws1, hw1⟩ : ∃ ws1, ws.take 40 = ws1 := ⟨_, rfl⟩
  rw [hw1] at H9 h40
  clear hw1 hr
  have H9' := Lib.hid H9; clear H9
  go_enter Try.func6, Try.ntmps6
  go_upto_region 2 with (first
    | (go_at_call 9; refine H9'.out.mono ?_; clear H9'; rintro e w1 ⟨A1, m1, c1, rfl, ho1, _, hm1, hb1⟩
       have Hm1 := Lib.hid hm1
       clear hm1
       have b1 := b0.call hb1
       have l1 := b1.lt
       have c10 := b1.cell 0
       have c11 := b1.cell 1
       have c12 := b1.cell 2
       have c13 := b1.cell 3
       simp at c10 c11 c12 c13
       have f10 := b1.frozen 0
       have f11 := b1.frozen 1
       have f12 := b1.frozen 2
       have f13 := b1.frozen 3
       ))
  rw [← Hm1.out] at h40
  have hk1 := k0.call k0.size hb1
  have hbx := box4 hk1 b1 (by rfl) (Nat.le_refl _) ho1 (by simp) (.int .i64 N) (.slice A1 m1 c1) (.int .i64 hn) (.int .i64 hl)
  obtain ⟨W, hW⟩ : ∃ W, ((((w1.setCell ⟨w.heap.size, 0, none⟩ (.int .i64 N)).setCell ⟨w.heap.size, 1, none⟩ (.slice A1 m1 c1)).setCell ⟨w.heap.size, 2, none⟩ (.int .i64 hn)).setCell ⟨w.heap.size, 3, none⟩ (.int .i64 hl)) = W := ⟨_, rfl⟩
  rw [hW] at hbx ⊢
  obtain ⟨kW, bW, oW⟩ := hbx
  have rW := Reads.of_own oW
  clear hW oW ho1 f10 f11 f12 f13 c10 c11 c12 c13 b1 hk1 hb1 k0 b0 l1
  have c10 := bW.cell 0
  have c11 := bW.cell 1
  have c12 := bW.cell 2
  have c13 := bW.cell 3
  simp at c10 c11 c12 c13
  have Gw := Lib.hid lworks
  have G18 := Lib.hid (one_may N hn hl ws1)
  cases hmay : mayB N ws1 hn hl
  · rw [hmay] at G18
    clear hmay
    go_wp2_with (first
      | (go_at_call 18; refine (G18.out _ _ _ _ rW (by omega)).mono ?_; rintro e w2 ⟨rfl, hb2⟩
         have k2 := kW.call kW.size hb2
         )
      | (go_at_call 17; refine (Gw.out _).mono ?_; rintro e w4 ⟨rfl, hb4⟩
         have k4 := k2.call k2.size hb4))
    go_ret
    exact ⟨rfl, k4⟩
  · rw [hmay] at G18
    have hok := mayB_net hmay
    have n1 := hok.n1
    have n8 := hok.n8
    have hh0 := hok.h0
    have hh1 := hok.h1
    obtain ⟨M, rfl⟩ := Int.eq_ofNat_of_zero_le (show 0 ≤ N by omega)
    obtain ⟨hk, rfl⟩ := Int.eq_ofNat_of_zero_le hh0
    have G10 := Lib.hid (tree_call hmay rfl)
    have Hmay := Lib.hid hmay; clear hmay hok
    have hmk := run_make_rowN (P := Try.prog) 28 3 i0 _ Try.underlying28 hi0 hz0 .i64 .i64 M M (Nat.le_refl _) (by rw [hz2]; omega) (by omega)
    rw [hz1, Nat.mul_one, made_ints] at hmk
    go_upto_region 8 with (first
      | (go_at_call 18; refine (G18.out _ _ _ _ rW (by omega)).mono ?_; rintro e w2 ⟨rfl, hb2⟩
         have r2 := rW.call hb2
         have b2 := bW.call hb2
         have k2 := kW.call kW.size hb2
         have d10 := b2.cell 0
         have d11 := b2.cell 1
         have d12 := b2.cell 2
         have d13 := b2.cell 3
         simp at d10 d11 d12 d13
         )
      | (go_at_call 10; refine (G10.out _ _ _ _ r2 (by omega)).mono ?_; rintro e w3 ⟨A3, c3, rfl, t3, hb3⟩
         have r3 := r2.call hb3
         have b3 := b2.call hb3
         have k3 := k2.call k2.size hb3
         have l3 := b3.lt
         have e10 := b3.cell 0
         have e11 := b3.cell 1
         have e12 := b3.cell 2
         have e13 := b3.cell 3
         simp at e10 e11 e12 e13
         )
      )
    clear c10 c11 c12 c13 rW bW kW hb2 hb3 d10 d11 d12 d13 r2 b2 k2
    go_upto_region 9 with (fail)
    have kX := (k3.alloc k3.size (.cells (icells (List.replicate M 0)).toArray 3)).alloc (by have := k3.size; simp; omega) (.cells (icells (List.replicate M 0)).toArray 3)
    have bX := (b3.alloc (.cells (icells (List.replicate M 0)).toArray 3)).alloc (.cells (icells (List.replicate M 0)).toArray 3)
    have pX := (Blk.new w3 3 (icells (List.replicate M 0)).toArray).alloc (.cells (icells (List.replicate M 0)).toArray 3)
    have fX := Blk.new (w3.alloc (.cells (icells (List.replicate M 0)).toArray 3)) 3 (icells (List.replicate M 0)).toArray
    have rX := ((r3.alloc (Nat.le_refl _) (.cells (icells (List.replicate M 0)).toArray 3)).alloc (by simp) (.cells (icells (List.replicate M 0)).toArray 3))
    have tX := ((t3.alloc (Nat.le_refl _) (.cells (icells (List.replicate M 0)).toArray 3)).alloc (by simp) (.cells (icells (List.replicate M 0)).toArray 3))
    simp only [World.size_alloc] at fX
    obtain ⟨X, hX⟩ : ∃ X, (w3.alloc (.cells (icells (List.replicate M 0)).toArray 3)).alloc (.cells (icells (List.replicate M 0)).toArray 3) = X := ⟨_, rfl⟩
    obtain ⟨g5, hg5⟩ : ∃ g, w3.heap.size = g := ⟨_, rfl⟩
    rw [hX] at kX bX pX fX rX tX ⊢
    rw [hg5] at pX fX rX tX l3 ⊢
    clear hX hg5 r3 t3 b3 k3 e10 e11 e12 e13
    rw [← parr_zero Hmay.out] at pX
    rw [← farr_zero M ws1 hk hl] at fX
    have HM := Lib.hid Hmay.out
    go_wp2
    go_loopw [7] (fun i wr => ∃ n : Nat, i = .int .i64 n ∧ n ≤ M ∧ Below w.heap.size w wr ∧ Blk wr w.heap.size 26 #[.int .i64 M, .slice A1 m1 c1, .int .i64 hk, .int .i64 hl] ∧ Reads wr g5 4 A1 m1 (wcells ws1) ∧ Reads wr g5 1 A3 M (icells (rtreeOf M ws1 hk hl)) ∧
        Blk wr g5 3 (icells (parr M ws1 hk hl n [])).toArray ∧ Blk wr (g5 + 1) 3 (icells (farr M ws1 hk hl n)).toArray) (fun i _ => M - (intOf i).toNat)
    case atStart => exact ⟨0, rfl, by omega, kX, bX, rX, tX, pX, fX⟩
    case round =>
      clear kX bX pX fX rX tX
      obtain ⟨n, rfl, hn, kR, bR, rR, tR, pR, fR⟩ := hrel
      have c10 := bR.cell 0
      have c11 := bR.cell 1
      have c12 := bR.cell 2
      have c13 := bR.cell 3
      simp at c10 c11 c12 c13
      have lp := pR.lt
      have lf := fR.lt
      have lb := bR.lt
      by_cases hlt : n < M
      · have hni : (n : Int) < (M : Int) := by omega
        obtain ⟨dn, dl, hdn, hdn1, hrt⟩ := dep_call (x := (n : Int)) HM.out (by omega) hni
        obtain ⟨L, hL⟩ : ∃ L, rchildren ws1 hk hl (n : Int) 4 = L := ⟨_, rfl⟩
        have HL := Lib.hid hL
        have Gr := Lib.hid hrt
        have Hdn := Lib.hid hdn
        clear hrt hdn
        obtain ⟨ln, hln⟩ : ∃ n, L.length = n := ⟨_, rfl⟩
        have hln4 : ln ≤ 4 := by
          rw [← hln, ← HL.out, rchildren, List.length_map]
          exact Nat.le_trans (List.length_filter_le _ _) (by simp)
        have Gc := Lib.hid (child_call (x := (n : Int)) HM.out (by omega) hni hL hln)
        have Hln := Lib.hid hln; clear hln hL
        go_upto_region 17 with (first
          | (go_at_call 13; refine (Gc.out _ _ _ _ (rR.fix (by omega)) (by omega)).mono ?_; rintro e w4 ⟨A4, c4, rfl, o4, hb4⟩
             have b4 := bR.call hb4
             have k4 := kR.call kR.size hb4
             have r4 := rR.keepB hb4 (by omega)
             have t4 := tR.keepB hb4 (by omega)
             have p4 := pR.call hb4
             have f4 := fR.call hb4
             have l4 := b4.lt
             have lf4 := f4.lt
             have d10 := b4.cell 0
             have d11 := b4.cell 1
             have d12 := b4.cell 2
             have d13 := b4.cell 3
             simp at d10 d11 d12 d13
             )
          | (go_at_call 15; refine (Gr.out _ _ _ _ (r4.fix (by omega)) (by omega)).mono ?_; rintro e w5 ⟨A5, c5, rfl, _, hb5⟩
             have b5 := b4.call hb5
             have k5 := k4.call k4.size hb5
             have r5 := r4.keepB hb5 (by omega)
             have t5 := t4.keepB hb5 (by omega)
             have p5 := p4.call hb5
             have f5 := f4.call hb5
             have o5 := o4.below hb5
             have l5 := b5.lt
             have fc := f5.int_at (farr_get hlt)
             have ff := f5.frozen n
             ))
        have b6 := b5.far (p := ⟨g5 + 1, n, none⟩) (by simp; omega) (.int .i64 dn)
        have k6 := k5.setCell (p := ⟨g5 + 1, n, none⟩) (by simp; omega) (.int .i64 dn)
        have r6 := r5.setCell (p := ⟨g5 + 1, n, none⟩) (by simp) (.int .i64 dn)
        have t6 := t5.setCell (p := ⟨g5 + 1, n, none⟩) (by simp) (.int .i64 dn)
        have p6 := p5.far (p := ⟨g5 + 1, n, none⟩) (by simp) (.int .i64 dn)
        have f6 := f5.set_ n (.int .i64 dn)
        have o6 := ownsOff.farRow o5 (p := ⟨g5 + 1, n, none⟩) (by exact lf) (.int .i64 dn)
        rw [icells_set, Hdn.out, farr_step M ws1 hk hl hlt] at f6
        rw [← Hdn.out] at f6
        obtain ⟨Z, hZ⟩ : ∃ Z, w5.setCell ⟨g5 + 1, n, none⟩ (.int .i64 dn) = Z := ⟨_, rfl⟩
        rw [hZ] at b6 k6 r6 t6 p6 f6 o6 ⊢
        have e0 : ([] : List Int) = L.take 0 := by simp
        rw [e0] at p6
        obtain ⟨B6, hB6⟩ : ∃ B, wr.heap.size = B := ⟨_, rfl⟩
        rw [hB6] at o6 lf lp
        clear hZ hB6 e0 b5 k5 r5 t5 p5 f5 o5 b4 k4 r4 t4 p4 f4 o4 bR kR rR tR pR fR hb4 hb5 ff fc c10 c11 c12 c13 d10 d11 d12 d13 l4 l5 lf4 lb Gr Gc
        go_wp2
        go_loopw [81] (fun i wv => ∃ j : Nat, i = .int .i64 j ∧ j ≤ ln ∧ Below w.heap.size w wv ∧ Blk wv w.heap.size 26 #[.int .i64 M, .slice A1 m1 c1, .int .i64 hk, .int .i64 hl] ∧ Reads wv g5 4 A1 m1 (wcells ws1) ∧ Reads wv g5 1 A3 M (icells (rtreeOf M ws1 hk hl)) ∧
            Blk wv g5 3 (icells (parr M ws1 hk hl n (L.take j))).toArray ∧ Blk wv (g5 + 1) 3 (icells (farr M ws1 hk hl (n + 1))).toArray ∧ wv.ownsRow B6 3 1 (.slice A4 ln c4) ln (icells L)) (fun i _ => ln - (intOf i).toNat)
        case atStart => exact ⟨0, rfl, by omega, k6, b6, r6, t6, p6, f6, o6⟩
        case round =>
          clear k6 b6 r6 t6 p6 f6 o6
          obtain ⟨j, rfl, hj, kV, bV, rV, tV, pV, fV, oV⟩ := hrel
          have c10 := bV.cell 0
          have c11 := bV.cell 1
          have c12 := bV.cell 2
          have c13 := bV.cell 3
          simp at c10 c11 c12 c13
          have lp := pV.lt
          have lb := bV.lt
          by_cases hjl : j < ln
          · have hji : (j : Int) < (ln : Int) := by omega
            obtain ⟨lk, elk⟩ : ∃ x, L[j]? = some x := ⟨_, List.getElem?_eq_getElem (by rw [Hln.out]; exact hjl)⟩
            obtain ⟨x, hxM, hxh, hpe, hp0, hps⟩ := parr_step (n := (n : Int)) HM.out (by rw [HL.out]; exact elk)
            rw [HL.out] at hp0 hps
            obtain ⟨ux, hux⟩ : ∃ ux, (upOf ws1 hk hl (x : Int)).2 = ux := ⟨_, rfl⟩
            have htx := rtree_get (hn := hk) (hl := hl) (ws := ws1) (N := M) (x := (x : Int)) (by omega) (by omega)
            rw [hux] at hpe htx
            rw [Int.toNat_natCast] at htx
            have Gp := Lib.hid (peer_call HM.out hpe)
            obtain ⟨b4, o4, rfl, hb4, hc4⟩ := (Reads.of_own oV).addr (by omega) (by omega)
            have cL := hc4 _ _ (icells_get elk)
            obtain ⟨b3, o3, rfl, hb3, hc3⟩ := tV.addr (by omega) (by omega)
            have cT := hc3 _ _ (icells_get htx)
            clear hux hc4 hc3 hpe htx elk
            have Hp0 := Lib.hid hp0; clear hp0
            have Hps := Lib.hid hps; clear hps
            have hxi : (x : Int) < (M : Int) := by omega
            have hxe : ((x : Int) == (hk : Int)) = false := by simpa using hxh
            clear hxh
            go_upto_region 21 with (first
              | (go_at_call 20; refine (Gp.out _ _ _ _ (rV.fix (by omega)) (by omega)).mono ?_; rintro e w5 ⟨rfl, hb5⟩
                 have b5 := bV.call hb5
                 have k5 := kV.call kV.size hb5
                 have r5 := rV.keepB hb5 (by omega)
                 have t5 := tV.keepB hb5 (by omega)
                 have p5 := pV.call hb5
                 have f5 := fV.call hb5
                 have o5 := oV.below hb5
                 have l5 := b5.lt
                 ))
            have cT5 : w5.cell? ⟨b3, o3 + x, none⟩ = some (.int .i64 ux) := by rw [(bcell hb5).1 _ _ (by omega)]; exact cT
            have lg5 := p5.lt
            have cTY : (w5.alloc (.cells #[.int .i64 x, .int .i64 ux] 24)).cell? ⟨b3, o3 + x, none⟩ = some (.int .i64 ux) := by rw [World.cell?_alloc_lt _ _ _ (by simp; omega)]; exact cT5
            have bY := b5.alloc (.cells #[.int .i64 x, .int .i64 ux] 24)
            have kY := k5.alloc k5.size (.cells #[.int .i64 x, .int .i64 ux] 24)
            have rY := r5.alloc (by omega) (.cells #[.int .i64 x, .int .i64 ux] 24)
            have tY := t5.alloc (by omega) (.cells #[.int .i64 x, .int .i64 ux] 24)
            have pY := p5.alloc (.cells #[.int .i64 x, .int .i64 ux] 24)
            have fY := f5.alloc (.cells #[.int .i64 x, .int .i64 ux] 24)
            have oY := o5.below ((Below.refl _ w5).alloc (Nat.le_refl _) (.cells #[.int .i64 x, .int .i64 ux] 24))
            have qY := Blk.new w5 24 #[.int .i64 x, .int .i64 ux]
            obtain ⟨Y, hY⟩ : ∃ Y, w5.alloc (.cells #[.int .i64 x, .int .i64 ux] 24) = Y := ⟨_, rfl⟩
            obtain ⟨g9, hg9⟩ : ∃ g, w5.heap.size = g := ⟨_, rfl⟩
            rw [hY] at bY kY rY tY pY fY oY qY cTY ⊢
            rw [hg9] at qY ⊢
            clear hY hg9 b5 k5 r5 t5 p5 f5 o5 cT5 cT cL bV kV rV tV pV fV oV hb5 c10 c11 c12 c13 Gp
            have c10 := bY.cell 0
            have c11 := bY.cell 1
            have c12 := bY.cell 2
            have c13 := bY.cell 3
            simp at c10 c11 c12 c13
            have q10 := qY.cell 0
            have q11 := qY.cell 1
            simp at q10 q11
            have cp := pY.int_at Hp0.out
            have cpf := pY.frozen x
            go_quiet (fail)
            go_wp2
            go_roundw
            case rel =>
              refine ⟨j + 1, by go_num, by omega, (kY.drewN' nq).setCell (by simp; omega) _, (bY.drewN nq).far (by simp; omega) _, Reads.setCell (w := Y.drewN nq) rY (by simp) _, Reads.setCell (w := Y.drewN nq) tY (by simp) _, ?_, (fY.drewN nq).far (by simp) _, ownsOff.farRow (w := Y.drewN nq) oY (by simp; omega) _⟩
              have h := (pY.drewN nq).set_ x (.int .i64 1)
              rw [icells_set, Hps.out] at h
              exact h
            case measure => simp [intOf]; omega
          · obtain rfl : j = ln := by omega
            have eL : L.take j = L := List.take_of_length_le (by rw [Hln.out]; exact Nat.le_refl _)
            rw [eL, ← HL.out, parr_next HM.out] at pV
            clear eL c10 c11 c12 c13
            go_wp2
            go_roundw
            case rel => exact ⟨n + 1, by go_num, by omega, kV, bV, rV, tV, pV, fV⟩
            case measure => simp [intOf]; omega
      · obtain rfl : n = M := by omega
        go_wp2
        go_loopw [16] (fun i wv => ∃ k : Nat, i = .int .i64 k ∧ k ≤ n ∧ wv = wr) (fun i _ => n - (intOf i).toNat)
        case atStart => exact ⟨0, rfl, by omega, rfl⟩
        case round =>
          obtain ⟨k, rfl, hkn, rfl⟩ := hrel
          by_cases hlt2 : k < n
          · have hki : (k : Int) < (n : Int) := by omega
            have hpk := pR.int_at (parr_end HM.out hlt2)
            by_cases hx : (k : Int) = (hk : Int)
            · rw [if_pos hx] at hpk
              have hxe : ((k : Int) == (hk : Int)) = true := by simpa using hx
              have Hx := Lib.hid hx; clear hx
              go_wp2
              go_roundw
              case rel => exact ⟨k + 1, by go_num, by omega, trivial⟩
              case measure => simp [intOf]; omega
            · rw [if_neg hx] at hpk
              have hxe : ((k : Int) == (hk : Int)) = false := by simpa using hx
              have Hx := Lib.hid hx; clear hx
              go_wp2
              go_roundw
              case rel => exact ⟨k + 1, by go_num, by omega, trivial⟩
              case measure => simp [intOf]; omega
          · obtain rfl : k = n := by omega
            go_wp2
            clear c10 c11 c12 c13 bR tR
            go_loopw [141] (fun i wv => ∃ j : Nat, i = .int .i64 j ∧ j ≤ m1 ∧ Below w.heap.size w wv ∧ Reads wv g5 4 A1 m1 (wcells ws1) ∧ Blk wv (g5 + 1) 3 (icells (farr k ws1 hk hl k)).toArray) (fun i _ => m1 - (intOf i).toNat)
            case atStart => exact ⟨0, rfl, by omega, kR, rR, fR⟩
            case round =>
              clear kR rR fR pR
              obtain ⟨j, rfl, hj, kV, rV, fV⟩ := hrel
              by_cases hjl : j < m1
              · have hji : (j : Int) < (m1 : Int) := by omega
                obtain ⟨x, ex⟩ : ∃ x, ws1[j]? = some x := ⟨_, List.getElem?_eq_getElem (by rw [← Hm1.out]; exact hjl)⟩
                have hxm := List.mem_of_getElem? ex
                obtain ⟨⟨a1, a2, _⟩, d1, d2, _⟩ := may_links HM.out x hxm
                obtain ⟨n0, n2⟩ := near_wire HM.out hxm
                obtain ⟨ba, oa, rfl, hba, hca⟩ := rV.addr (by omega) (by omega)
                have q0 := hca _ _ (wcells_get ws1 j x ex 0 _ rfl)
                have q1 := hca _ _ (wcells_get ws1 j x ex 1 _ rfl)
                have q2 := hca _ _ (wcells_get ws1 j x ex 2 _ rfl)
                have q3 := hca _ _ (wcells_get ws1 j x ex 3 _ rfl)
                simp only [Nat.add_zero, ← Nat.add_assoc] at q0 q1 q2 q3
                obtain ⟨xa, xb, xc, xd⟩ := x
                dsimp only at a1 a2 d1 d2 n0 n2 q0 q1 q2 q3
                obtain ⟨ya, rfl⟩ := Int.eq_ofNat_of_zero_le a1
                obtain ⟨yc, rfl⟩ := Int.eq_ofNat_of_zero_le d1
                have fa := farr_get (ws := ws1) (hn := hk) (hl := hl) (n := k) (show ya < k by omega)
                have fc := farr_get (ws := ws1) (hn := hk) (hl := hl) (n := k) (show yc < k by omega)
                rw [if_pos (by omega)] at fa fc
                obtain ⟨va, hva⟩ : ∃ v, fdep ws1 hk hl (ya : Int) = v := ⟨_, rfl⟩
                obtain ⟨vc, hvc⟩ : ∃ v, fdep ws1 hk hl (yc : Int) = v := ⟨_, rfl⟩
                rw [hva] at fa n0 n2
                rw [hvc] at fc n0 n2
                clear hca ex hxm hva hvc
                have bY := Blk.new wr 50 #[.int .i64 (ya : Int), .int .i64 xb, .int .i64 (yc : Int), .int .i64 xd]
                have fY := fV.alloc (.cells #[.int .i64 (ya : Int), .int .i64 xb, .int .i64 (yc : Int), .int .i64 xd] 50)
                have lf := fV.lt
                have rY := rV.alloc (by omega) (.cells #[.int .i64 (ya : Int), .int .i64 xb, .int .i64 (yc : Int), .int .i64 xd] 50)
                have kY := kV.alloc kV.size (.cells #[.int .i64 (ya : Int), .int .i64 xb, .int .i64 (yc : Int), .int .i64 xd] 50)
                go_upto_region 36 with (fail)
                obtain ⟨Y, hY⟩ : ∃ Y, wr.alloc (.cells #[.int .i64 (ya : Int), .int .i64 xb, .int .i64 (yc : Int), .int .i64 xd] 50) = Y := ⟨_, rfl⟩
                obtain ⟨g9, hg9⟩ : ∃ g, wr.heap.size = g := ⟨_, rfl⟩
                rw [hY] at bY fY rY kY ⊢
                rw [hg9] at bY ⊢
                clear hY hg9 fV rV kV q0 q1 q2 q3
                have c10 := bY.cell 0
                have c11 := bY.cell 1
                have c12 := bY.cell 2
                have c13 := bY.cell 3
                simp at c10 c11 c12 c13
                have ca := fY.int_at fa
                have cc := fY.int_at fc
                have hya : (ya : Int) < (k : Int) := by omega
                have hyc : (yc : Int) < (k : Int) := by omega
                have h1 : ¬ (va - vc < -1) := by omega
                have h2 : ¬ (1 < va - vc) := by omega
                clear fa fc
                go_quiet (fail)
                go_wp2
                go_roundw
                case rel => exact ⟨j + 1, by go_num, by omega, kY.drewN' _, rY, fY.drewN _⟩
                case measure => simp [intOf]; omega
              · go_wp2_with (first
                  | (go_at_call 17; refine (Gw.out _).mono ?_; rintro e w4 ⟨rfl, hb4⟩
                     have k4 := kV.call kV.size hb4))
                go_ret
                exact ⟨rfl, k4⟩
end Go.Proofs.Ytadpenphiagdmaa
