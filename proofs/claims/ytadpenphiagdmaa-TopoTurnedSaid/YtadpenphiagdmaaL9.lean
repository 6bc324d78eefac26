/- The law TopoRoutes walked. -/
import Derived.Test.YtadpenphiagdmaaL8
import Derived.Test.YtadpenphiagdmaaQT
namespace Go.Proofs.Ytadpenphiagdmaa
open Go.RowKit
set_option linter.unusedVariables false
set_option linter.unusedSimpArgs false

theorem u8_bounds {a : Int} (h : (Lit.int .u8 a).wf = true) : 0 ≤ a ∧ a ≤ 255 := by
  have h2 : IntKind.u8.min ≤ a ∧ a ≤ IntKind.u8.max := by simpa [Lit.wf] using h
  have e1 : IntKind.u8.min = 0 := by decide
  have e2 : IntKind.u8.max = 255 := by decide
  omega
/-- A list of so many numbers and a second value, handed back. -/
def RetL (n : Nat) (xs : List Int) (v : Value) (w : World) (e : Ending) (w' : World) : Prop :=
  ∃ A c, e = .returned (.tuple #[.slice A n c, v]) ∧ Reads w' w'.heap.size 1 A n (icells xs) ∧ Below w.heap.size w w'
theorem RetL.of_se {n : Nat} {xs : List Int} {k : Int} {w w' : World} {e : Ending} (hn : xs.length = n) (h : RetSE xs k w e w') : RetL n xs (.int .i64 k) w e w' := by
  subst hn; exact h
theorem RetL.of_sb {n : Nat} {xs : List Int} {k : Bool} {w w' : World} {e : Ending} (hn : xs.length = n) (h : RetSB xs k w e w') : RetL n xs (.bool k) w e w' := by
  subst hn; exact h
theorem route_call {N hn hl : Int} {ws : List Wire} {x y k : Int} {l : List Int} {n : Nat} (e : rRouteR N ws hn hl x y = (l, k)) (hl0 : l.length = n) : ∀ A m c w, Reads w w.heap.size 4 A m (wcells ws) → m ≤ 1000000 →
    Calls Try.prog 15 #[.agg #[.int .i64 N, .slice A m c, .int .i64 hn, .int .i64 hl], .int .i64 x, .int .i64 y] w (RetL n l (.int .i64 k) w) := fun A m c w hr hm => by
  have := tRoute N hn hl A m c ws x y w hr hm
  rw [e] at this
  exact this.mono fun _ _ h => RetL.of_se hl0 h
theorem lwalkAt {N hn hl : Int} {ws : List Wire} {x : Int} {l way : List Int} {n k : Nat} (hok : WayOk (rpeerOf N ws hn hl) x l way) (hw : way.length = k) (hn1 : n ≤ 100) : ∀ A m c B d w, Reads w w.heap.size 4 A m (wcells ws) → m ≤ 1000000 → Reads w w.heap.size 1 B n (icells l) →
    Calls Try.prog 23 #[.agg #[.int .i64 N, .slice A m c, .int .i64 hn, .int .i64 hl], .int .i64 x, .slice B n d] w (RetL k way (.bool true) w) := fun A m c B d w hr hm hb => by
  have := lwalk N hn hl A m c ws x B n d l way w hr hm hb hn1 hok
  exact this.mono fun _ _ h => RetL.of_sb hw h
theorem one_may (N hn hl : Int) (ws : List Wire) : ∀ A m c w, Reads w w.heap.size 4 A m (wcells ws) → m ≤ 1000000 → Calls Try.prog 18 #[.agg #[.int .i64 N, .slice A m c, .int .i64 hn, .int .i64 hl]] w (RetV (.bool (mayB N ws hn hl)) w) :=
  fun A m c w hr hm => tmay N hn hl A m c ws w hr hm
theorem one_tree (N hn hl : Int) (ws : List Wire) : ∀ A m c w, Reads w w.heap.size 4 A m (wcells ws) → m ≤ 1000000 → Calls Try.prog 10 #[.agg #[.int .i64 N, .slice A m c, .int .i64 hn, .int .i64 hl]] w (RetSE (rTreeR N ws hn hl).1 (rTreeR N ws hn hl).2 w) :=
  fun A m c w hr hm => by have := tTree N hn hl A m c ws w hr hm; rwa [tTreeR_eq] at this
theorem rtree_get {N hn hl : Int} {ws : List Wire} {x : Int} (h0 : 0 ≤ x) (h1 : x < N) : (rtreeOf N ws hn hl)[x.toNat]? = some (upOf ws hn hl x).2 := by
  rw [rtreeOf, List.getElem?_map, List.getElem?_range (by omega), Option.map_some]
  have : ((x.toNat : Nat) : Int) = x := by omega
  rw [this]
theorem tree_call {N hn hl : Int} {ws : List Wire} {n : Nat} (h : mayB N ws hn hl = true) (hN : N = n) : ∀ A m c w, Reads w w.heap.size 4 A m (wcells ws) → m ≤ 1000000 → Calls Try.prog 10 #[.agg #[.int .i64 N, .slice A m c, .int .i64 hn, .int .i64 hl]] w (RetL n (rtreeOf N ws hn hl) (.int .i64 0) w) :=
  fun A m c w hr hm => by
    have := one_tree N hn hl ws A m c w hr hm
    have e : rTreeR N ws hn hl = (rtreeOf N ws hn hl, 0) := by simp [rTreeR, h]
    rw [e] at this
    exact this.mono fun _ _ h => RetL.of_se (by simp [rtreeOf]; omega) h
set_option maxRecDepth 100000 in
set_option maxHeartbeats 4000000 in
theorem routes_walk (N hn hl : Int) (A : Option Addr) (m c : Nat) (ws : List Wire) (x : Int) (wx : (Lit.int .u8 x).wf = true) (y : Int) (wy : (Lit.int .u8 y).wf = true) (w : World) (hr : Reads w w.heap.size 4 A m (wcells ws)) (hmc : m ≤ c) (hc : c ≤ maxLen) :
    Calls Try.prog 5 #[.agg #[.int .i64 N, .slice A m c, .int .i64 hn, .int .i64 hl], .int .u8 x, .int .u8 y] w (RetV (.bool true) w) := by
  obtain ⟨x0, x1⟩ := u8_bounds wx
  obtain ⟨y0, y1⟩ := u8_bounds wy
  clear wx wy
  obtain ⟨k0, b0⟩ := lay1 w #[.int .i64 N, .slice A m c, .int .i64 hn, .int .i64 hl] 26
  have h40 : (ws.take 40).length ≤ 40 := by rw [List.length_take]; omega
  have H9 := lcopied N hn hl A m c ws (w.alloc (.cells #[.int .i64 N, .slice A m c, .int .i64 hn, .int .i64 hl] 26)) (hr.up k0 k0.size) hmc hc
  obtain ⟨ws1, hw1⟩ : ∃ ws1, ws.take 40 = ws1 := ⟨_, rfl⟩
  rw [hw1] at H9 h40
  clear hw1 hr
  have H9' := Lib.hid H9; clear H9
  go_enter Try.func5, Try.ntmps5
  go_upto_region 2 with (first
    | (go_at_call 9; refine H9'.out.mono ?_; clear H9'; rintro e w1 ⟨A1, m1, c1, rfl, ho1, _, hm1, hb1⟩
       have Hm1 := Lib.hid hm1
       clear hm1
       have b1 := b0.call hb1
       have l1 := b1.lt
       have c10 := b1.cell 0
       have c11 := b1.cell 1
       have c12 := b1.cell 2
       have c13 := b1.cell 3
       simp at c10 c11 c12 c13
       have f10 := b1.frozen 0
       have f11 := b1.frozen 1
       have f12 := b1.frozen 2
       have f13 := b1.frozen 3
       ))
  rw [← Hm1.out] at h40
  clear Hm1
  have hk1 := k0.call k0.size hb1
  have hbx := box4 hk1 b1 (by rfl) (Nat.le_refl _) ho1 (by simp) (.int .i64 N) (.slice A1 m1 c1) (.int .i64 hn) (.int .i64 hl)
  obtain ⟨W, hW⟩ : ∃ W, ((((w1.setCell ⟨w.heap.size, 0, none⟩ (.int .i64 N)).setCell ⟨w.heap.size, 1, none⟩ (.slice A1 m1 c1)).setCell ⟨w.heap.size, 2, none⟩ (.int .i64 hn)).setCell ⟨w.heap.size, 3, none⟩ (.int .i64 hl)) = W := ⟨_, rfl⟩
  rw [hW] at hbx ⊢
  obtain ⟨kW, bW, oW⟩ := hbx
  have rW := Reads.of_own oW
  clear hW oW ho1 f10 f11 f12 f13 c10 c11 c12 c13 b1 hk1 hb1 k0 b0 l1
  have c10 := bW.cell 0
  have c11 := bW.cell 1
  have c12 := bW.cell 2
  have c13 := bW.cell 3
  simp at c10 c11 c12 c13
  have Gw := Lib.hid lworks
  have G18 := Lib.hid (one_may N hn hl ws1)
  cases hmay : mayB N ws1 hn hl
  · rw [hmay] at G18
    have e15 : rRouteR N ws1 hn hl x y = ([], 2) := by simp [rRouteR, hmay]
    have G15 := Lib.hid (fun A m c w hr hm => tRoute N hn hl A m c ws1 x y w hr hm)
    rw [e15] at G15
    clear hmay e15
    go_wp2_with (first
      | (go_at_call 18; refine (G18.out _ _ _ _ rW (by omega)).mono ?_; rintro e w2 ⟨rfl, hb2⟩
         have r2 := rW.call hb2
         have b2 := bW.call hb2
         have k2 := kW.call kW.size hb2
         have d10 := b2.cell 0
         have d11 := b2.cell 1
         have d12 := b2.cell 2
         have d13 := b2.cell 3
         simp at d10 d11 d12 d13
         )
      | (go_at_call 15; refine (G15.out _ _ _ _ r2 (by omega)).mono ?_; rintro e w3 ⟨A3, c3, rfl, _, hb3⟩
         have k3 := k2.call k2.size hb3)
      | (go_at_call 17; refine (Gw.out _).mono ?_; rintro e w4 ⟨rfl, hb4⟩
         have k4 := k3.call k3.size hb4))
    go_ret
    exact ⟨rfl, k4⟩
  · rw [hmay] at G18
    have hok := mayB_net hmay
    have n1 := hok.n1
    have n8 := hok.n8
    have hh0 := hok.h0
    have hh1 := hok.h1
    have Hmay := Lib.hid hmay; clear hmay hok
    go_upto_region 5 with (first
      | (go_at_call 18; refine (G18.out _ _ _ _ rW (by omega)).mono ?_; rintro e w2 ⟨rfl, hb2⟩
         have r2 := rW.call hb2
         have b2 := bW.call hb2
         have k2 := kW.call kW.size hb2
         have d10 := b2.cell 0
         have d11 := b2.cell 1
         have d12 := b2.cell 2
         have d13 := b2.cell 3
         simp at d10 d11 d12 d13
         ))
    clear c10 c11 c12 c13 rW bW kW hb2
    go_quiet (fail)
    obtain ⟨fr, hfr⟩ : ∃ fr, x % N = fr := ⟨_, rfl⟩
    obtain ⟨dn, hdn⟩ : ∃ dn, y % N = dn := ⟨_, rfl⟩
    have f0 : 0 ≤ fr ∧ fr < N := by rw [← hfr]; exact ⟨Int.emod_nonneg _ (by omega), Int.emod_lt_of_pos _ (by omega)⟩
    have f1 : 0 ≤ dn ∧ dn < N := by rw [← hdn]; exact ⟨Int.emod_nonneg _ (by omega), Int.emod_lt_of_pos _ (by omega)⟩
    rw [hfr, hdn]
    clear hfr hdn x0 x1 y0 y1
    obtain ⟨way, e1, e2, ok1, ok2, inj⟩ := route_facts Hmay.out f0 f1
    have b1 := rRouteR_len N hn hl fr dn ws1
    obtain ⟨l1, z1, h1⟩ : ∃ l z, rRouteR N ws1 hn hl fr dn = (l, z) := ⟨_, _, rfl⟩
    obtain ⟨l2, z2, h2⟩ : ∃ l z, rRouteR N ws1 hn hl dn fr = (l, z) := ⟨_, _, rfl⟩
    rw [h1] at e1 ok1 b1
    rw [h2] at e2 ok2
    dsimp only at e1 e2 ok1 ok2 b1
    subst e1 e2
    obtain ⟨n, hn1⟩ : ∃ n, l1.length = n := ⟨_, rfl⟩
    have hw1 : way.length = n + 1 := by rw [ok1.1, hn1]
    have hn2 : l2.length = n := by have := ok2.1; rw [List.length_reverse, hw1] at this; omega
    rw [hn1] at b1
    obtain ⟨bw, hbw⟩ : ∃ bw, way.reverse = bw := ⟨_, rfl⟩
    have hw2 : bw.length = n + 1 := by rw [← hbw, List.length_reverse, hw1]
    have hget : ∀ i : Nat, i ≤ n → bw[n - i]? = way[i]? := fun i hi => by rw [← hbw, List.getElem?_reverse (by omega), hw1]; congr 1; omega
    have first1 := ok1.2.1
    have first2 := ok2.2.1
    rw [hbw] at ok2 first2
    have last2 : bw[n]? = some fr := by rw [show n = n - 0 from rfl, hget 0 (by omega)]; exact first1
    have last1 : way[n]? = some dn := by have := hget n (by omega); rw [Nat.sub_self] at this; rw [← this]; exact first2
    have Ga := Lib.hid (route_call h1 hn1)
    have Gb := Lib.hid (route_call h2 hn2)
    have Gc := Lib.hid (lwalkAt ok1 hw1 (n := n) (by omega))
    have Gd := Lib.hid (lwalkAt ok2 hw2 (n := n) (by omega))
    have Hget := Lib.hid hget
    have Hinj := Lib.hid inj
    have L1 := Lib.hid last1
    have L2 := Lib.hid last2
    have H1 := Lib.hid hw1
    have H2 := Lib.hid hw2
    clear h1 h2 hn1 hn2 hw1 hw2 hbw ok1 ok2 first1 first2 last1 last2 hget inj
    have r2' := r2.drewN nq
    have b2' := b2.drewN nq
    have k2' := k2.drewN' nq
    obtain ⟨V, hV⟩ : ∃ V, w2.drewN nq = V := ⟨_, rfl⟩
    rw [hV]
    have r3 : Reads V V.heap.size 4 A1 m1 (wcells ws1) := by rw [← hV]; exact r2'
    rw [hV] at b2' k2'
    clear hV r2 b2 k2 r2' d10 d11 d12 d13
    have Gn := Lib.hid (route_root (hl := hl) (ws := ws1) Hmay.out f0)
    have d10 := b2'.cell 0
    have d11 := b2'.cell 1
    have d12 := b2'.cell 2
    have d13 := b2'.cell 3
    simp at d10 d11 d12 d13
    have tok1 : True := trivial
    have tok2 : True := trivial
    go_upto_region 10 with (first
      | (go_at_call 15; have _t := tok1; refine (Ga.out _ _ _ _ r3 (by omega)).mono ?_; clear tok1; rintro e w4 ⟨A4, c4, rfl, s4, hb4⟩
         have r4 := r3.call hb4
         have b4 := b2'.call hb4
         have k4 := k2'.call k2'.size hb4
         have g10 := b4.cell 0
         have g11 := b4.cell 1
         have g12 := b4.cell 2
         have g13 := b4.cell 3
         simp at g10 g11 g12 g13
         )
      | (go_at_call 15; refine (Gb.out _ _ _ _ r4 (by omega)).mono ?_; rintro e w5 ⟨A5, c5, rfl, t5, hb5⟩
         have r5 := r4.call hb5
         have s5 := s4.call hb5
         have b5 := b4.call hb5
         have k5 := k4.call k4.size hb5
         have h10 := b5.cell 0
         have h11 := b5.cell 1
         have h12 := b5.cell 2
         have h13 := b5.cell 3
         simp at h10 h11 h12 h13
         )
      | (go_at_call 23; have _t := tok2; refine (Gc.out _ _ _ _ _ _ r5 (by omega) s5).mono ?_; clear tok2; rintro e w6 ⟨A6, c6, rfl, s6, hb6⟩
         have r6 := r5.call hb6
         have t6 := t5.call hb6
         have b6 := b5.call hb6
         have k6 := k5.call k5.size hb6
         have i10 := b6.cell 0
         have i11 := b6.cell 1
         have i12 := b6.cell 2
         have i13 := b6.cell 3
         simp at i10 i11 i12 i13
         )
      | (go_at_call 23; refine (Gd.out _ _ _ _ _ _ r6 (by omega) t6).mono ?_; rintro e w7 ⟨A7, c7, rfl, s7, hb7⟩
         have r7 := r6.call hb7
         have b7 := b6.call hb7
         have k7 := k6.call k6.size hb7
         have u7 := s6.call hb7
         )
      )
    obtain ⟨ba, oa, rfl, hba, hca⟩ := u7.addr (by omega) (by omega)
    obtain ⟨bb, ob, rfl, hbb, hcb⟩ := s7.addr (by omega) (by omega)
    have cA := hca _ _ (icells_get L1.out)
    have cB := hcb _ _ (icells_get L2.out)
    have HA := Lib.hid hca
    have HBc := Lib.hid hcb
    clear hca hcb r3 r4 r5 r6 s4 s5 s6 t5 t6 b4 b5 b6 k4 k5 k6 hb4 hb5 hb6 hb7 d10 d11 d12 d13 g10 g11 g12 g13 h10 h11 h12 h13 i10 i11 i12 i13 b2' k2' Ga Gb Gc Gd
    go_wp2
    clear cA cB
    go_loopw [130] (fun i wr => ∃ k : Nat, i = .int .i64 k ∧ k ≤ n + 1 ∧ ∃ q, wr = w7.drewN q) (fun i _ => n + 1 - (intOf i).toNat)
    case atStart => exact ⟨0, rfl, by omega, 0, rfl⟩
    case round =>
      obtain ⟨k, rfl, hk, q, rfl⟩ := hrel
      by_cases hlt : k < n + 1
      · have hki : (k : Int) < (n : Int) + 1 := by omega
        obtain ⟨z, ez⟩ : ∃ z, way[k]? = some z := ⟨_, List.getElem?_eq_getElem (by rw [H1.out]; exact hlt)⟩
        have cA := HA.out _ _ (icells_get ez)
        have cB := HBc.out _ _ (icells_get ((Hget.out k (by omega)).trans ez))
        have Ez := Lib.hid ez; clear ez
        have hi0 : (0 : Int) ≤ (n : Int) - (k : Int) := by omega
        have hi1 : (n : Int) - (k : Int) < (n : Int) + 1 := by omega
        have hi2 : ((n : Int) - (k : Int)).toNat = n - k := by omega
        go_wp2
        go_quiet (fail)
        go_wp2
        clear cA cB
        go_loopw [20] (fun i wr => ∃ j : Nat, i = .int .i64 j ∧ j ≤ k ∧ ∃ q, wr = w7.drewN q) (fun i _ => k - (intOf i).toNat)
        case atStart => exact ⟨0, rfl, by omega, _, World.drewN_drewN _ _ _⟩
        case round =>
          obtain ⟨j, rfl, hj, q', rfl⟩ := hrel
          by_cases hjk : j < k
          · have hjki : (j : Int) < (k : Int) := by omega
            have hjn : (j : Int) < (n : Int) + 1 := by omega
            obtain ⟨z2, ez2⟩ : ∃ z, way[j]? = some z := ⟨_, List.getElem?_eq_getElem (by rw [H1.out]; omega)⟩
            have cj := HA.out _ _ (icells_get ez2)
            have ck := HA.out _ _ (icells_get Ez.out)
            have hne : (z2 == z) = false := by
              rw [beq_eq_false_iff_ne]
              rintro rfl
              have := Hinj.out j k z2 ez2 Ez.out
              omega
            have Ez2 := Lib.hid ez2; clear ez2
            go_wp2
            go_quiet (fail)
            go_wp2
            go_roundw
            case rel => exact ⟨j + 1, by go_num, by omega, _, rfl⟩
            case measure => simp [intOf]; omega
          · obtain rfl : j = k := by omega
            go_wp2
            go_roundw
            case rel => exact ⟨j + 1, by go_num, by omega, _, rfl⟩
            case measure => simp [intOf]; omega
      · obtain rfl : k = n + 1 := by omega
        obtain ⟨rt0, rt1⟩ := Gn.out
        have hup := up_root Hmay.out
        obtain ⟨ul, uk, hul⟩ : ∃ l k, rRouteR N ws1 hn hl fr hn = (l, k) := ⟨_, _, rfl⟩
        rw [hul] at rt0 rt1
        dsimp only at rt0 rt1
        subst rt0
        obtain ⟨un, hun⟩ : ∃ un, ul.length = un := ⟨_, rfl⟩
        have Ge := Lib.hid (route_call hul hun)
        have tr0 := rtree_get (hn := hn) (hl := hl) (ws := ws1) hh0 hh1
        have tr1 := rtree_get (hn := hn) (hl := hl) (ws := ws1) f0.1 f0.2
        rw [hup] at tr0
        dsimp only at tr0
        have Gt := Lib.hid (fun Nn (hN : N = (Nn : Nat)) => tree_call Hmay.out hN)
        have r9 := r7.drewN q
        have b9 := b7.drewN q
        have k9 := k7.drewN' q
        obtain ⟨X, hX⟩ : ∃ X, w7.drewN q = X := ⟨_, rfl⟩
        rw [hX] at b9 k9 ⊢
        have r9 : Reads X X.heap.size 4 A1 m1 (wcells ws1) := by rw [← hX]; exact r9
        clear hX r7 b7 k7 Gn hul hup HA HBc
        obtain ⟨T, hT⟩ : ∃ T, rtreeOf N ws1 hn hl = T := ⟨_, rfl⟩
        rw [hT] at Gt tr0 tr1
        obtain ⟨ux, hux⟩ : ∃ ux, (upOf ws1 hn hl fr).2 = ux := ⟨_, rfl⟩
        rw [hux] at rt1 tr1
        clear hT hux Hmay
        have TR0 := Lib.hid tr0
        have TR1 := Lib.hid tr1
        clear tr0 tr1
        obtain ⟨f00, f01⟩ := f0
        obtain ⟨Nn, rfl⟩ := Int.eq_ofNat_of_zero_le (show 0 ≤ N by omega)
        obtain ⟨hk, rfl⟩ := Int.eq_ofNat_of_zero_le hh0
        obtain ⟨fk, rfl⟩ := Int.eq_ofNat_of_zero_le f00
        have d10 := b9.cell 0
        have d11 := b9.cell 1
        have d12 := b9.cell 2
        have d13 := b9.cell 3
        simp at d10 d11 d12 d13
        clear hba hbb u7 s7
        have tokA : True := trivial
        go_upto_region 25 with (first
          | (go_at_call 10; refine (Gt.out Nn rfl _ _ _ _ r9 (by omega)).mono ?_; rintro e wa ⟨Aa, ca, rfl, ta, hba⟩
             have ra := r9.call hba
             have bA := b9.call hba
             have ka := k9.call k9.size hba
             have g10 := bA.cell 0
             have g11 := bA.cell 1
             have g12 := bA.cell 2
             have g13 := bA.cell 3
             simp at g10 g11 g12 g13
             )
          | (go_at_call 15; refine (Ge.out _ _ _ _ ra (by omega)).mono ?_; rintro e wb ⟨Ab, cb, rfl, tb, hbb⟩
             have ta2 := ta.call hbb
             have bB := bA.call hbb
             have kb := ka.call ka.size hbb
             have h10 := bB.cell 0
             have h11 := bB.cell 1
             have h12 := bB.cell 2
             have h13 := bB.cell 3
             simp at h10 h11 h12 h13
             ))
        have hkN : hk < Nn := by omega
        have fkN : fk < Nn := by omega
        have hkI : (hk : Int) < (Nn : Int) := hh1
        have fkI : (fk : Int) < (Nn : Int) := f01
        obtain ⟨bt, ot, rfl, hbt, hct⟩ := ta2.addr (by omega) (by omega)
        have e1 := TR0.out
        have e2 := TR1.out
        rw [Int.toNat_natCast] at e1 e2
        have ch := hct _ _ (icells_get e1)
        have cf := hct _ _ (icells_get e2)
        clear hct e1 e2
        go_quiet (fail)
        go_wp2
        rcases rt1 with ⟨hfh, hu0⟩ | ⟨hfh, r, hur⟩
        · subst hu0
          have hun0 : 0 = un := by simpa using hun
          subst hun0
          have hfk : fk = hk := by omega
          subst hfk
          clear hun hfh cf tb
          have kb' := kb.drewN' nq
          have bB' := bB.drewN nq
          obtain ⟨Y, hY⟩ : ∃ Y, wb.drewN nq = Y := ⟨_, rfl⟩
          rw [hY] at bB' kb' ⊢
          clear hY
          have j10 := bB'.cell 0
          have j11 := bB'.cell 1
          have j12 := bB'.cell 2
          have j13 := bB'.cell 3
          simp at j10 j11 j12 j13
          have lB := bB'.lt
          refine wp_region_quiet_tail 25 (by kernel_rfl) (by kernel_rfl) ?_
          simp only [List.take_succ_cons, List.take_zero, List.drop_succ_cons, List.drop_zero]
          repeat go_big_quiet_step (fail)
          refine wpQuiet_nil ?_
          go_wp2_with (first
            | (go_at_call 17; refine (Gw.out _).mono ?_; rintro e w' ⟨rfl, hb1⟩))
          go_ret
          exact ⟨rfl, (kb'.drew).call kb'.size hb1⟩
        · have hun1 : un = r.length + 1 := by rw [← hun, hur]; rfl
          obtain ⟨bu, ou, rfl, hbu, hcu⟩ := tb.addr (by omega) (by omega)
          have cu := hcu 0 _ (icells_get (l := ul) (k := 0) (x := ux) (by rw [hur]; rfl))
          rw [Nat.add_zero] at cu
          clear hcu hur
          have hne : ((un : Int) == 0) = false := by simp; omega
          have hpos : (0 : Int) < (un : Int) := by omega
          have hfk : ((fk : Int) == (hk : Int)) = false := by simpa using hfh
          have kb' := kb.drewN' nq
          have bB' := bB.drewN nq
          obtain ⟨Y, hY⟩ : ∃ Y, wb.drewN nq = Y := ⟨_, rfl⟩
          have cu' : Y.cell? ⟨bu, ou, none⟩ = some (.int .i64 ux) := by rw [← hY]; exact cu
          have cf' : Y.cell? ⟨bt, ot + fk, none⟩ = some (.int .i64 ux) := by rw [← hY]; exact cf
          rw [hY] at bB' kb' ⊢
          clear hY hun1 hun hfh
          have j10 := bB'.cell 0
          have j11 := bB'.cell 1
          have j12 := bB'.cell 2
          have j13 := bB'.cell 3
          simp at j10 j11 j12 j13
          refine wp_region_quiet_tail 25 (by kernel_rfl) (by kernel_rfl) ?_
          simp only [List.take_succ_cons, List.take_zero, List.drop_succ_cons, List.drop_zero]
          repeat go_big_quiet_step (fail)
          refine wpQuiet_nil ?_
          go_wp2_with (first
            | (go_at_call 17; refine (Gw.out _).mono ?_; rintro e w' ⟨rfl, hb1⟩))
          go_ret
          exact ⟨rfl, (kb'.drew).call kb'.size hb1⟩
end Go.Proofs.Ytadpenphiagdmaa
