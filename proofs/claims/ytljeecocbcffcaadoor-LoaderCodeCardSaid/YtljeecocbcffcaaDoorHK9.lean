/- Texts that belong together, joined: what each one holds is told ahead of it. -/
import Derived.Test.YtljeecocbcffcaaDoorHK8
import Derived.Test.YtljeecocbcffcaaDoorHK1
import Derived.BigQuiet
/- line of the reference with a label, walked. -/
namespace Go.Proofs.YtljeecocbcffcaaDoor
open Go.RowKit Go.Maps Go.WideMaps Go.Shelf
set_option linter.unusedSimpArgs false
set_option linter.unusedVariables false

set_option maxRecDepth 100000 in
set_option maxHeartbeats 4000000 in
theorem rLine_lab (l0 l : List UInt8) (hl0 : l0.length ≤ 4000000000) (h1 : (l0.takeWhile (· != 58)).length + 1 < l0.length) (hle : l = l0.drop ((l0.takeWhile (· != 58)).length + 2)) (w : World) : Calls Tryd.prog 56 #[.string (strB l0)] w (RetV (.agg (lineC (parseB (l0.takeWhile (· != 58)) l))) w) := by
  have hl : l.length ≤ 4000000000 := by rw [hle, List.length_drop]; omega
  have hcut0 : (strB l0).extract ((l0.takeWhile (· != 58)).length + 2) (strB l0).size = strB l := by rw [ext_rest, hle]
  have hlab := ext_pre l0 58
  have hsz0 := strB_size l0
  have HU1 := Lib.hid (fun w => rUp l0 58 hl0 w)
  have HU2 := Lib.hid (fun w => rUp l 32 hl w)
  have HNM := Lib.hid (fun w => rNm (l.takeWhile (· != 32)) w)
  have hpre := ext_pre l 32
  have hsz := strB_size l
  have k2le := tw_le 32 l
  have hpe := parseB_eq (l0.takeWhile (· != 58)) l
  obtain ⟨kx, x0, y0⟩ := lay2 w #[.string ⟨#[]⟩, .int .u8 0, .int .i32 0, .string ⟨#[]⟩, .string ⟨#[]⟩] #[.string ⟨#[]⟩, .int .u8 0, .int .i32 0, .string ⟨#[]⟩, .string ⟨#[]⟩] 27 27
  obtain ⟨W, hW⟩ : ∃ W, (w.alloc (.cells #[.string ⟨#[]⟩, .int .u8 0, .int .i32 0, .string ⟨#[]⟩, .string ⟨#[]⟩] 27)).alloc (.cells #[.string ⟨#[]⟩, .int .u8 0, .int .i32 0, .string ⟨#[]⟩, .string ⟨#[]⟩] 27) = W := ⟨_, rfl⟩
  rw [hW] at kx x0 y0
  have HW := Lib.hid hW
  clear hW
  unfold instR at HNM
  generalize hyy : (namedI (l.takeWhile (· != 32))).getD irow0 = yy at *
  generalize (namedI (l.takeWhile (· != 32))).isSome = ok at *
  have hk1 : ((l0.takeWhile (· != 58)).length : Int) + 1 < ((strB l0).size : Int) := by rw [hsz0]; omega
  have hk1a : (0 : Int) ≤ ((l0.takeWhile (· != 58)).length : Int) := by omega
  have hk1b : ((l0.takeWhile (· != 58)).length : Int) ≤ ((strB l0).size : Int) := by omega
  have hk1c : (0 : Int) ≤ ((l0.takeWhile (· != 58)).length : Int) + 2 := by omega
  have hk1d : ((l0.takeWhile (· != 58)).length : Int) + 2 ≤ ((strB l0).size : Int) := by rw [hsz0]; omega
  have hS0 : (strB l0).size ≤ 4000000000 := by rw [hsz0]; exact hl0
  generalize (l0.takeWhile (· != 58)).length = k1 at *
  generalize hLABe : strB (l0.takeWhile (· != 58)) = LAB at *
  have HLAB := Lib.hid hLABe
  generalize strB l0 = S0 at *
  clear hLABe hle hsz0 hl0 h1
  cases hd : l.dropWhile (· != 32) with
  | nil =>
    have hk2 : (l.takeWhile (· != 32)).length = l.length := by
      have h := List.takeWhile_append_dropWhile (p := (· != (32 : UInt8))) (l := l)
      rw [hd, List.append_nil] at h
      rw [h]
    rw [hd] at hpe
    simp only at hpe
    have HPE := Lib.hid hpe
    have hk2S : (l.takeWhile (· != 32)).length = (strB l).size := by rw [hsz, hk2]
    have hSs : (strB l).size ≤ 4000000000 := by rw [hsz]; exact hl
    generalize (l.takeWhile (· != 32)).length = k2 at *
    generalize strB (l.takeWhile (· != 32)) = P at *
    rw [show ((58 : UInt8).toNat : Int) = 58 from rfl] at HU1
    rw [show ((32 : UInt8).toNat : Int) = 32 from rfl] at HU2
    have hb4 : (k1 : Int) ≤ 4000000000 := by omega
    clear hpe hd hk2 hyy hsz k2le hl
    generalize strB l = S at *
    subst hk2S
    go_enter Tryd.func56, Tryd.ntmps56
    go_wp2_with (first
      | (go_at_call 55; rw [HW.out]; (with_reducible refine (HU1.out _).mono ?_); rintro e w1 ⟨rfl, hb1⟩
         have x1 := (x0.call hb1).far (p := ⟨w.heap.size + 1, 0, none⟩) (by simp) (.string LAB)
         have ya := y0.call hb1
         have yc := ya.cell 0
         have yf := ya.frozen 0
         have yl := ya.lt
         simp at yc
         have y1 := ya.set_ 0 (.string LAB)
         simp at y1
         have K1 := Lib.hid ((kx.trans (hb1.mono kx.size)).setCell (p := ⟨w.heap.size + 1, 0, none⟩) (by simp) (.string LAB))
         clear HU1)
      | (go_at_call 55; (with_reducible refine (HU2.out _).mono ?_); rintro e w2 ⟨rfl, hb2⟩
         have x2 := x1.call hb2
         have y2 := y1.call hb2
         have K2 := Lib.hid (K1.out.trans (hb2.mono K1.out.size))
         clear HU2)
      | (go_at_call 73; (with_reducible refine (HNM.out _).mono ?_); rintro e w3 ⟨rfl, hb3⟩
         have x3 := x2.call hb3
         have y3 := y2.call hb3
         have K3 := Lib.hid (K2.out.trans (hb3.mono K2.out.size))
         have cx0 := x3.cell 0
         have cx1 := x3.cell 1
         have cx2 := x3.cell 2
         have cx3 := x3.cell 3
         have cx4 := x3.cell 4
         simp at cx0 cx1 cx2 cx3 cx4
         have cy0 := y3.cell 0
         have cy1 := y3.cell 1
         have cy2 := y3.cell 2
         have cy3 := y3.cell 3
         have cy4 := y3.cell 4
         simp at cy0 cy1 cy2 cy3 cy4
         have fx0 := x3.frozen 0
         have fx1 := x3.frozen 1
         have fx2 := x3.frozen 2
         have fx3 := x3.frozen 3
         have fx4 := x3.frozen 4
         have fy0 := y3.frozen 0
         have fy1 := y3.frozen 1
         have fy2 := y3.frozen 2
         have fy3 := y3.frozen 3
         have fy4 := y3.frozen 4
         have lx := x3.lt
         have ly := y3.lt
         clear HNM))
    have R := (((((((x3.far (p := ⟨w.heap.size + 1, 1, none⟩) (by simp) (.int .u8 yy.fn)).far (p := ⟨w.heap.size + 1, 2, none⟩) (by simp) (.int .i32 yy.arg)).set_ 0 (.string LAB)).set_ 1 (.int .u8 yy.fn)).set_ 2 (.int .i32 yy.arg)).set_ 3 (.string ⟨#[]⟩)).set_ 4 (.string ⟨#[]⟩)).alloc (.cells #[.int .u8 yy.fn, .int .i32 yy.arg] 59)
    simp at R
    obtain ⟨d0, d1, d2, d3, d4⟩ := cells5 R
    have KF := (((((((K3.out.setCell (p := ⟨w.heap.size + 1, 1, none⟩) (by simp) (.int .u8 yy.fn)).setCell (p := ⟨w.heap.size + 1, 2, none⟩) (by simp) (.int .i32 yy.arg)).setCell (p := ⟨w.heap.size, 0, none⟩) (by simp) (.string LAB)).setCell (p := ⟨w.heap.size, 1, none⟩) (by simp) (.int .u8 yy.fn)).setCell (p := ⟨w.heap.size, 2, none⟩) (by simp) (.int .i32 yy.arg)).setCell (p := ⟨w.heap.size, 3, none⟩) (by simp) (.string ⟨#[]⟩)).setCell (p := ⟨w.heap.size, 4, none⟩) (by simp) (.string ⟨#[]⟩)).alloc (by have := K3.out.size; simp; omega) (.cells #[.int .u8 yy.fn, .int .i32 yy.arg] 59)
    generalize ((((((((w3.setCell ⟨w.heap.size + 1, 1, none⟩ (.int .u8 yy.fn)).setCell ⟨w.heap.size + 1, 2, none⟩ (.int .i32 yy.arg)).setCell ⟨w.heap.size, 0, none⟩ (.string LAB)).setCell ⟨w.heap.size, 1, none⟩ (.int .u8 yy.fn)).setCell ⟨w.heap.size, 2, none⟩ (.int .i32 yy.arg)).setCell ⟨w.heap.size, 3, none⟩ (.string ⟨#[]⟩)).setCell ⟨w.heap.size, 4, none⟩ (.string ⟨#[]⟩)).alloc (.cells #[.int .u8 yy.fn, .int .i32 yy.arg] 59)) = FW at *
    clear R
    refine bodyPost_ret (v := .agg #[.string LAB, .int .u8 yy.fn, .int .i32 yy.arg, .string ⟨#[]⟩, .string ⟨#[]⟩]) (by simp [results, Tryd.results56, go_sem, d0, d1, d2, d3, d4, lineC, strB]) rfl ⟨by rw [HPE.out, ← HLAB.out]; rfl, KF⟩
  | cons a o =>
    have ha : a = 32 := by
      have h := List.head?_dropWhile_not (p := (· != (32 : UInt8))) (l := l)
      rw [hd] at h
      simpa using h
    subst ha
    have hk2lt := tw_lt 32 l (by rw [hd]; simp)
    have hrest : (strB l).extract ((l.takeWhile (· != 32)).length + 1) (strB l).size = strB o := by
      rw [ext_rest, drop_tw1, hd]; rfl
    have hol : o.length ≤ 4000000000 := by
      have h := (List.dropWhile_sublist (p := (· != (32 : UInt8))) (l := l)).length_le
      rw [hd, List.length_cons] at h; omega
    rw [hd] at hpe
    simp only at hpe
    have HNO := Lib.hid (fun w => rNo o hol w)
    have HU3 := Lib.hid (fun w => rUp o 45 hol w)
    rw [show ((45 : UInt8).toNat : Int) = 45 from rfl] at HU3
    rw [show ((58 : UInt8).toNat : Int) = 58 from rfl] at HU1
    rw [show ((32 : UInt8).toNat : Int) = 32 from rfl] at HU2
    have hoe := strB_empty o
    have hosz := strB_size o
    have k2S : (l.takeWhile (· != 32)).length < (strB l).size := by rw [hsz]; exact hk2lt
    have hSs : (strB l).size ≤ 4000000000 := by rw [hsz]; exact hl
    generalize (l.takeWhile (· != 32)).length = k2 at *
    generalize strB (l.takeWhile (· != 32)) = P at *
    generalize strB l = S at *
    have hk2I : ¬ (k2 : Int) = S.size := by omega
    have hk20 : (0 : Int) ≤ (k2 : Int) + 1 := by omega
    have hk21 : (k2 : Int) + 1 ≤ S.size := by omega
    have hob : ∀ c r, o = c :: r → ∃ h : 0 < (strB o).size, (strB o)[0] = c := by
      intro c r h
      subst h
      exact ⟨by rw [strB_size]; simp, rfl⟩
    cases hnh : numHead o with
    | true =>
      rw [if_pos hnh] at hpe
      have HPE := Lib.hid hpe
      cases o with
      | nil => cases hnh
      | cons c r =>
        obtain ⟨h0, hget⟩ := hob c r rfl
        have h0I : (0 : Int) < (strB (c :: r)).size := by omega
        have hz : (c :: r).isEmpty = false := rfl
        rw [hz] at hoe
        have hcc : ((c.toNat : Int) == 45) = true ∨ (((c.toNat : Int) == 45) = false ∧ 48 ≤ (c.toNat : Int) ∧ (c.toNat : Int) ≤ 57) := by
          simp only [numHead, Bool.or_eq_true, Bool.and_eq_true, decide_eq_true_eq, beq_iff_eq] at hnh
          rcases hnh with h | h
          · left; rw [h]; rfl
          · right
            refine ⟨by rw [beq_eq_false_iff_ne]; omega, by omega, by omega⟩
        generalize numR (c :: r) = nv at *
        generalize strB (c :: r) = O at *
        clear hpe hd hnh hz hob hk2lt hol hl hsz hosz hyy k2le HU3
        go_enter Tryd.func56, Tryd.ntmps56
        rcases hcc with q | ⟨q, q1, q2⟩
        all_goals
          go_wp2_with (first
            | (go_at_call 55; rw [HW.out]; (with_reducible refine (HU1.out _).mono ?_); rintro e w1 ⟨rfl, hb1⟩
               have x1 := (x0.call hb1).far (p := ⟨w.heap.size + 1, 0, none⟩) (by simp) (.string LAB)
               have ya := y0.call hb1
               have yc := ya.cell 0
               have yf := ya.frozen 0
               have yl := ya.lt
               simp at yc
               have y1 := ya.set_ 0 (.string LAB)
               simp at y1
               have K1 := Lib.hid ((kx.trans (hb1.mono kx.size)).setCell (p := ⟨w.heap.size + 1, 0, none⟩) (by simp) (.string LAB))
               clear HU1)
            | (go_at_call 55; (with_reducible refine (HU2.out _).mono ?_); rintro e w2 ⟨rfl, hb2⟩
               have x2 := x1.call hb2
               have y2 := y1.call hb2
               have K2 := Lib.hid (K1.out.trans (hb2.mono K1.out.size))
               clear HU2)
            | (go_at_call 73; (with_reducible refine (HNM.out _).mono ?_); rintro e w3 ⟨rfl, hb3⟩
               have x3 := x2.call hb3
               have y3 := y2.call hb3
               have K3 := Lib.hid (K2.out.trans (hb3.mono K2.out.size))
               have cx0 := x3.cell 0
               have cx1 := x3.cell 1
               have cx2 := x3.cell 2
               have cx3 := x3.cell 3
               have cx4 := x3.cell 4
               simp at cx0 cx1 cx2 cx3 cx4
               have cy0 := y3.cell 0
               have cy1 := y3.cell 1
               have cy2 := y3.cell 2
               have cy3 := y3.cell 3
               have cy4 := y3.cell 4
               simp at cy0 cy1 cy2 cy3 cy4
               have fx0 := x3.frozen 0
               have fx1 := x3.frozen 1
               have fx2 := x3.frozen 2
               have fx3 := x3.frozen 3
               have fx4 := x3.frozen 4
               have fy0 := y3.frozen 0
               have fy1 := y3.frozen 1
               have fy2 := y3.frozen 2
               have fy3 := y3.frozen 3
               have fy4 := y3.frozen 4
               have lx := x3.lt
               have ly := y3.lt
               clear HNM)
            | (go_at_call 74; (with_reducible refine (HNO.out _).mono ?_); rintro e w4 ⟨rfl, hb4⟩
               have x4 := (((x3.far (p := ⟨w.heap.size + 1, 1, none⟩) (by simp) (.int .u8 yy.fn)).far (p := ⟨w.heap.size + 1, 2, none⟩) (by simp) (.int .i32 yy.arg)).alloc (.cells #[.int .u8 yy.fn, .int .i32 yy.arg] 59)).call hb4
               have y4 := (((y3.set_ 1 (.int .u8 yy.fn)).set_ 2 (.int .i32 yy.arg)).alloc (.cells #[.int .u8 yy.fn, .int .i32 yy.arg] 59)).call hb4
               simp at y4
               have K4 := Lib.hid ((((K3.out.setCell (p := ⟨w.heap.size + 1, 1, none⟩) (by simp) (.int .u8 yy.fn)).setCell (p := ⟨w.heap.size + 1, 2, none⟩) (by simp) (.int .i32 yy.arg)).alloc (by have := K3.out.size; simp; omega) (.cells #[.int .u8 yy.fn, .int .i32 yy.arg] 59)).trans (hb4.mono (by have := K3.out.size; simp; omega)))
               have dx0 := x4.cell 0
               have dx1 := x4.cell 1
               have dx2 := x4.cell 2
               have dx3 := x4.cell 3
               have dx4 := x4.cell 4
               simp at dx0 dx1 dx2 dx3 dx4
               have dy0 := y4.cell 0
               have dy1 := y4.cell 1
               have dy2 := y4.cell 2
               have dy3 := y4.cell 3
               have dy4 := y4.cell 4
               simp at dy0 dy1 dy2 dy3 dy4
               have gx0 := x4.frozen 0
               have gx1 := x4.frozen 1
               have gx2 := x4.frozen 2
               have gx3 := x4.frozen 3
               have gx4 := x4.frozen 4
               have gy0 := y4.frozen 0
               have gy1 := y4.frozen 1
               have gy2 := y4.frozen 2
               have gy3 := y4.frozen 3
               have gy4 := y4.frozen 4
               have lx4 := x4.lt
               have ly4 := y4.lt
               clear HNO))
          have R := ((((((x4.far (p := ⟨w.heap.size + 1, 2, none⟩) (by simp) (.int .i32 nv)).set_ 0 (.string LAB)).set_ 1 (.int .u8 yy.fn)).set_ 2 (.int .i32 nv)).set_ 3 (.string ⟨#[]⟩)).set_ 4 (.string ⟨#[]⟩))
          simp at R
          obtain ⟨d0, d1, d2, d3, d4⟩ := cells5 R
          have KF := ((((((K4.out.setCell (p := ⟨w.heap.size + 1, 2, none⟩) (by simp) (.int .i32 nv)).setCell (p := ⟨w.heap.size, 0, none⟩) (by simp) (.string LAB)).setCell (p := ⟨w.heap.size, 1, none⟩) (by simp) (.int .u8 yy.fn)).setCell (p := ⟨w.heap.size, 2, none⟩) (by simp) (.int .i32 nv)).setCell (p := ⟨w.heap.size, 3, none⟩) (by simp) (.string ⟨#[]⟩)).setCell (p := ⟨w.heap.size, 4, none⟩) (by simp) (.string ⟨#[]⟩))
          generalize ((((((w4.setCell ⟨w.heap.size + 1, 2, none⟩ (.int .i32 nv)).setCell ⟨w.heap.size, 0, none⟩ (.string LAB)).setCell ⟨w.heap.size, 1, none⟩ (.int .u8 yy.fn)).setCell ⟨w.heap.size, 2, none⟩ (.int .i32 nv)).setCell ⟨w.heap.size, 3, none⟩ (.string ⟨#[]⟩)).setCell ⟨w.heap.size, 4, none⟩ (.string ⟨#[]⟩)) = FW at *
          clear R
          refine bodyPost_ret (v := .agg #[(.string LAB), (.int .u8 yy.fn), (.int .i32 nv), (.string ⟨#[]⟩), (.string ⟨#[]⟩)]) (by simp [results, Tryd.results56, go_sem, d0, d1, d2, d3, d4]) rfl ⟨by rw [HPE.out, ← HLAB.out]; rfl, KF⟩
    | false =>
      rw [if_neg (by rw [hnh]; decide)] at hpe
      have HPE := Lib.hid hpe
      have hpre3 := ext_pre o 45
      have k3le := tw_le 45 o
      cases o with
      | nil =>
        have hz : ([] : List UInt8).isEmpty = true := rfl
        rw [hz] at hoe
        have hTG : (strB []).extract 0 0 = strB [] := rfl
        have hk30 : (([] : List UInt8).takeWhile (· != 45)).length = 0 := rfl
        rw [hk30] at HU3
        have hO0 : (strB []).size = 0 := rfl
        rw [show (([] : List UInt8).takeWhile (· != 45)) = [] from rfl] at HPE
        clear hpe hd hnh hz hob hk2lt hol hl hsz hosz hyy k2le HNO hpre3 k3le hk30
        generalize hOe : strB [] = O at *
        have HOO := Lib.hid hOe
        clear hOe
        go_enter Tryd.func56, Tryd.ntmps56
        go_wp2_with (first
          | (go_at_call 55; rw [HW.out]; (with_reducible refine (HU1.out _).mono ?_); rintro e w1 ⟨rfl, hb1⟩
             have x1 := (x0.call hb1).far (p := ⟨w.heap.size + 1, 0, none⟩) (by simp) (.string LAB)
             have ya := y0.call hb1
             have yc := ya.cell 0
             have yf := ya.frozen 0
             have yl := ya.lt
             simp at yc
             have y1 := ya.set_ 0 (.string LAB)
             simp at y1
             have K1 := Lib.hid ((kx.trans (hb1.mono kx.size)).setCell (p := ⟨w.heap.size + 1, 0, none⟩) (by simp) (.string LAB))
             clear HU1)
          | (go_at_call 55; (with_reducible refine (HU2.out _).mono ?_); rintro e w2 ⟨rfl, hb2⟩
             have x2 := x1.call hb2
             have y2 := y1.call hb2
             have K2 := Lib.hid (K1.out.trans (hb2.mono K1.out.size))
             clear HU2)
          | (go_at_call 73; (with_reducible refine (HNM.out _).mono ?_); rintro e w3 ⟨rfl, hb3⟩
             have x3 := x2.call hb3
             have y3 := y2.call hb3
             have K3 := Lib.hid (K2.out.trans (hb3.mono K2.out.size))
             have cx0 := x3.cell 0
             have cx1 := x3.cell 1
             have cx2 := x3.cell 2
             have cx3 := x3.cell 3
             have cx4 := x3.cell 4
             simp at cx0 cx1 cx2 cx3 cx4
             have cy0 := y3.cell 0
             have cy1 := y3.cell 1
             have cy2 := y3.cell 2
             have cy3 := y3.cell 3
             have cy4 := y3.cell 4
             simp at cy0 cy1 cy2 cy3 cy4
             have fx0 := x3.frozen 0
             have fx1 := x3.frozen 1
             have fx2 := x3.frozen 2
             have fx3 := x3.frozen 3
             have fx4 := x3.frozen 4
             have fy0 := y3.frozen 0
             have fy1 := y3.frozen 1
             have fy2 := y3.frozen 2
             have fy3 := y3.frozen 3
             have fy4 := y3.frozen 4
             have lx := x3.lt
             have ly := y3.lt
             clear HNM)
          | (go_at_call 55; (with_reducible refine (HU3.out _).mono ?_); rintro e w4 ⟨rfl, hb4⟩
             have x4 := (((x3.far (p := ⟨w.heap.size + 1, 1, none⟩) (by simp) (.int .u8 yy.fn)).far (p := ⟨w.heap.size + 1, 2, none⟩) (by simp) (.int .i32 yy.arg)).alloc (.cells #[.int .u8 yy.fn, .int .i32 yy.arg] 59)).call hb4
             have y4 := (((y3.set_ 1 (.int .u8 yy.fn)).set_ 2 (.int .i32 yy.arg)).alloc (.cells #[.int .u8 yy.fn, .int .i32 yy.arg] 59)).call hb4
             simp at y4
             have K4 := Lib.hid ((((K3.out.setCell (p := ⟨w.heap.size + 1, 1, none⟩) (by simp) (.int .u8 yy.fn)).setCell (p := ⟨w.heap.size + 1, 2, none⟩) (by simp) (.int .i32 yy.arg)).alloc (by have := K3.out.size; simp; omega) (.cells #[.int .u8 yy.fn, .int .i32 yy.arg] 59)).trans (hb4.mono (by have := K3.out.size; simp; omega)))
             have dx0 := x4.cell 0
             have dx1 := x4.cell 1
             have dx2 := x4.cell 2
             have dx3 := x4.cell 3
             have dx4 := x4.cell 4
             simp at dx0 dx1 dx2 dx3 dx4
             have dy0 := y4.cell 0
             have dy1 := y4.cell 1
             have dy2 := y4.cell 2
             have dy3 := y4.cell 3
             have dy4 := y4.cell 4
             simp at dy0 dy1 dy2 dy3 dy4
             have gx0 := x4.frozen 0
             have gx1 := x4.frozen 1
             have gx2 := x4.frozen 2
             have gx3 := x4.frozen 3
             have gx4 := x4.frozen 4
             have gy0 := y4.frozen 0
             have gy1 := y4.frozen 1
             have gy2 := y4.frozen 2
             have gy3 := y4.frozen 3
             have gy4 := y4.frozen 4
             have lx4 := x4.lt
             have ly4 := y4.lt
             clear HU3))
        have R := ((((((x4.far (p := ⟨w.heap.size + 1, 3, none⟩) (by simp) (.string ByteArray.empty)).set_ 0 (.string LAB)).set_ 1 (.int .u8 yy.fn)).set_ 2 (.int .i32 yy.arg)).set_ 3 (.string ByteArray.empty)).set_ 4 (.string ⟨#[]⟩))
        simp at R
        obtain ⟨d0, d1, d2, d3, d4⟩ := cells5 R
        have KF := ((((((K4.out.setCell (p := ⟨w.heap.size + 1, 3, none⟩) (by simp) (.string ByteArray.empty)).setCell (p := ⟨w.heap.size, 0, none⟩) (by simp) (.string LAB)).setCell (p := ⟨w.heap.size, 1, none⟩) (by simp) (.int .u8 yy.fn)).setCell (p := ⟨w.heap.size, 2, none⟩) (by simp) (.int .i32 yy.arg)).setCell (p := ⟨w.heap.size, 3, none⟩) (by simp) (.string ByteArray.empty)).setCell (p := ⟨w.heap.size, 4, none⟩) (by simp) (.string ⟨#[]⟩))
        generalize ((((((w4.setCell ⟨w.heap.size + 1, 3, none⟩ (.string ByteArray.empty)).setCell ⟨w.heap.size, 0, none⟩ (.string LAB)).setCell ⟨w.heap.size, 1, none⟩ (.int .u8 yy.fn)).setCell ⟨w.heap.size, 2, none⟩ (.int .i32 yy.arg)).setCell ⟨w.heap.size, 3, none⟩ (.string ByteArray.empty)).setCell ⟨w.heap.size, 4, none⟩ (.string ⟨#[]⟩)) = FW at *
        clear R
        refine bodyPost_ret (v := .agg #[(.string LAB), (.int .u8 yy.fn), (.int .i32 yy.arg), (.string ByteArray.empty), (.string ⟨#[]⟩)]) (by simp [results, Tryd.results56, go_sem, d0, d1, d2, d3, d4]) rfl ⟨by rw [HPE.out, ← HLAB.out]; rfl, KF⟩
      | cons c r =>
        obtain ⟨h0, hget⟩ := hob c r rfl
        have h0I : (0 : Int) < (strB (c :: r)).size := by omega
        have hz : (c :: r).isEmpty = false := rfl
        rw [hz] at hoe
        have hcc : (((c.toNat : Int) == 45) = false ∧ ¬ 48 ≤ (c.toNat : Int)) ∨ (((c.toNat : Int) == 45) = false ∧ 48 ≤ (c.toNat : Int) ∧ ¬ (c.toNat : Int) ≤ 57) := by
          simp only [numHead, Bool.or_eq_false_iff, Bool.and_eq_false_iff, decide_eq_false_iff_not, beq_eq_false_iff_ne] at hnh
          have e45 : ((c.toNat : Int) == 45) = false := by
            rw [beq_eq_false_iff_ne]
            intro h
            exact hnh.1 (UInt8.toNat.inj (by show c.toNat = 45; omega))
          rcases hnh.2 with h | h
          · exact .inl ⟨e45, by omega⟩
          · by_cases h48 : 48 ≤ (c.toNat : Int)
            · exact .inr ⟨e45, h48, by omega⟩
            · exact .inl ⟨e45, h48⟩
        cases hd3 : (c :: r).dropWhile (· != 45) with
        | nil =>
          have hk3S : ((c :: r).takeWhile (· != 45)).length = (strB (c :: r)).size := by
            have h := List.takeWhile_append_dropWhile (p := (· != (45 : UInt8))) (l := c :: r)
            rw [hd3, List.append_nil] at h
            rw [h, strB_size]
          rw [hd3] at HPE
          have hOs : (strB (c :: r)).size ≤ 4000000000 := by rw [hosz]; exact hol
          generalize ((c :: r).takeWhile (· != 45)).length = k3 at *
          generalize hTGe : strB ((c :: r).takeWhile (· != 45)) = TG at *
          have HTG := Lib.hid hTGe
          generalize strB (c :: r) = O at *
          subst hk3S
          clear hpe hd hnh hz hob hk2lt hol hl hsz hosz hyy k2le HNO hd3 k3le hTGe
          rcases hcc with ⟨q, q1⟩ | ⟨q, q1, q2⟩
          all_goals
            go_enter Tryd.func56, Tryd.ntmps56
            go_wp2_with (first
              | (go_at_call 55; rw [HW.out]; (with_reducible refine (HU1.out _).mono ?_); rintro e w1 ⟨rfl, hb1⟩
                 have x1 := (x0.call hb1).far (p := ⟨w.heap.size + 1, 0, none⟩) (by simp) (.string LAB)
                 have ya := y0.call hb1
                 have yc := ya.cell 0
                 have yf := ya.frozen 0
                 have yl := ya.lt
                 simp at yc
                 have y1 := ya.set_ 0 (.string LAB)
                 simp at y1
                 have K1 := Lib.hid ((kx.trans (hb1.mono kx.size)).setCell (p := ⟨w.heap.size + 1, 0, none⟩) (by simp) (.string LAB))
                 clear HU1)
              | (go_at_call 55; (with_reducible refine (HU2.out _).mono ?_); rintro e w2 ⟨rfl, hb2⟩
                 have x2 := x1.call hb2
                 have y2 := y1.call hb2
                 have K2 := Lib.hid (K1.out.trans (hb2.mono K1.out.size))
                 clear HU2)
              | (go_at_call 73; (with_reducible refine (HNM.out _).mono ?_); rintro e w3 ⟨rfl, hb3⟩
                 have x3 := x2.call hb3
                 have y3 := y2.call hb3
                 have K3 := Lib.hid (K2.out.trans (hb3.mono K2.out.size))
                 have cx0 := x3.cell 0
                 have cx1 := x3.cell 1
                 have cx2 := x3.cell 2
                 have cx3 := x3.cell 3
                 have cx4 := x3.cell 4
                 simp at cx0 cx1 cx2 cx3 cx4
                 have cy0 := y3.cell 0
                 have cy1 := y3.cell 1
                 have cy2 := y3.cell 2
                 have cy3 := y3.cell 3
                 have cy4 := y3.cell 4
                 simp at cy0 cy1 cy2 cy3 cy4
                 have fx0 := x3.frozen 0
                 have fx1 := x3.frozen 1
                 have fx2 := x3.frozen 2
                 have fx3 := x3.frozen 3
                 have fx4 := x3.frozen 4
                 have fy0 := y3.frozen 0
                 have fy1 := y3.frozen 1
                 have fy2 := y3.frozen 2
                 have fy3 := y3.frozen 3
                 have fy4 := y3.frozen 4
                 have lx := x3.lt
                 have ly := y3.lt
                 clear HNM)
              | (go_at_call 55; (with_reducible refine (HU3.out _).mono ?_); rintro e w4 ⟨rfl, hb4⟩
                 have x4 := (((x3.far (p := ⟨w.heap.size + 1, 1, none⟩) (by simp) (.int .u8 yy.fn)).far (p := ⟨w.heap.size + 1, 2, none⟩) (by simp) (.int .i32 yy.arg)).alloc (.cells #[.int .u8 yy.fn, .int .i32 yy.arg] 59)).call hb4
                 have y4 := (((y3.set_ 1 (.int .u8 yy.fn)).set_ 2 (.int .i32 yy.arg)).alloc (.cells #[.int .u8 yy.fn, .int .i32 yy.arg] 59)).call hb4
                 simp at y4
                 have K4 := Lib.hid ((((K3.out.setCell (p := ⟨w.heap.size + 1, 1, none⟩) (by simp) (.int .u8 yy.fn)).setCell (p := ⟨w.heap.size + 1, 2, none⟩) (by simp) (.int .i32 yy.arg)).alloc (by have := K3.out.size; simp; omega) (.cells #[.int .u8 yy.fn, .int .i32 yy.arg] 59)).trans (hb4.mono (by have := K3.out.size; simp; omega)))
                 have dx0 := x4.cell 0
                 have dx1 := x4.cell 1
                 have dx2 := x4.cell 2
                 have dx3 := x4.cell 3
                 have dx4 := x4.cell 4
                 simp at dx0 dx1 dx2 dx3 dx4
                 have dy0 := y4.cell 0
                 have dy1 := y4.cell 1
                 have dy2 := y4.cell 2
                 have dy3 := y4.cell 3
                 have dy4 := y4.cell 4
                 simp at dy0 dy1 dy2 dy3 dy4
                 have gx0 := x4.frozen 0
                 have gx1 := x4.frozen 1
                 have gx2 := x4.frozen 2
                 have gx3 := x4.frozen 3
                 have gx4 := x4.frozen 4
                 have gy0 := y4.frozen 0
                 have gy1 := y4.frozen 1
                 have gy2 := y4.frozen 2
                 have gy3 := y4.frozen 3
                 have gy4 := y4.frozen 4
                 have lx4 := x4.lt
                 have ly4 := y4.lt
                 clear HU3))
            have R := ((((((x4.far (p := ⟨w.heap.size + 1, 3, none⟩) (by simp) (.string TG)).set_ 0 (.string LAB)).set_ 1 (.int .u8 yy.fn)).set_ 2 (.int .i32 yy.arg)).set_ 3 (.string TG)).set_ 4 (.string ⟨#[]⟩))
            simp at R
            obtain ⟨d0, d1, d2, d3, d4⟩ := cells5 R
            have KF := ((((((K4.out.setCell (p := ⟨w.heap.size + 1, 3, none⟩) (by simp) (.string TG)).setCell (p := ⟨w.heap.size, 0, none⟩) (by simp) (.string LAB)).setCell (p := ⟨w.heap.size, 1, none⟩) (by simp) (.int .u8 yy.fn)).setCell (p := ⟨w.heap.size, 2, none⟩) (by simp) (.int .i32 yy.arg)).setCell (p := ⟨w.heap.size, 3, none⟩) (by simp) (.string TG)).setCell (p := ⟨w.heap.size, 4, none⟩) (by simp) (.string ⟨#[]⟩))
            generalize ((((((w4.setCell ⟨w.heap.size + 1, 3, none⟩ (.string TG)).setCell ⟨w.heap.size, 0, none⟩ (.string LAB)).setCell ⟨w.heap.size, 1, none⟩ (.int .u8 yy.fn)).setCell ⟨w.heap.size, 2, none⟩ (.int .i32 yy.arg)).setCell ⟨w.heap.size, 3, none⟩ (.string TG)).setCell ⟨w.heap.size, 4, none⟩ (.string ⟨#[]⟩)) = FW at *
            clear R
            refine bodyPost_ret (v := .agg #[(.string LAB), (.int .u8 yy.fn), (.int .i32 yy.arg), (.string TG), (.string ⟨#[]⟩)]) (by simp [results, Tryd.results56, go_sem, d0, d1, d2, d3, d4]) rfl ⟨by rw [HPE.out, ← HLAB.out, ← HTG.out]; rfl, KF⟩
        | cons a3 o3 =>
          have ha3 : a3 = 45 := by
            have h := List.head?_dropWhile_not (p := (· != (45 : UInt8))) (l := c :: r)
            rw [hd3] at h
            simpa using h
          subst ha3
          have hk3S : ((c :: r).takeWhile (· != 45)).length < (strB (c :: r)).size := by rw [hosz]; exact tw_lt 45 _ (by rw [hd3]; simp)
          have hrest3 : (strB (c :: r)).extract (((c :: r).takeWhile (· != 45)).length + 1) (strB (c :: r)).size = strB o3 := by
            rw [ext_rest, drop_tw1, hd3]; rfl
          rw [hd3] at HPE
          have hOs : (strB (c :: r)).size ≤ 4000000000 := by rw [hosz]; exact hol
          generalize ((c :: r).takeWhile (· != 45)).length = k3 at *
          generalize hTGe : strB ((c :: r).takeWhile (· != 45)) = TG at *
          generalize hFRe : strB o3 = FR at *
          have HTG := Lib.hid hTGe
          have HFR := Lib.hid hFRe
          generalize strB (c :: r) = O at *
          have hk3I : (k3 : Int) < O.size := by omega
          have hk30 : (0 : Int) ≤ (k3 : Int) + 1 := by omega
          have hk31 : (k3 : Int) + 1 ≤ O.size := by omega
          have hk32 : (0 : Int) ≤ (k3 : Int) := by omega
          have hk33 : (k3 : Int) ≤ O.size := by omega
          clear hpe hd hnh hz hob hk2lt hol hl hsz hosz hyy k2le HNO hd3 k3le hTGe hFRe
          rcases hcc with ⟨q, q1⟩ | ⟨q, q1, q2⟩
          all_goals
            go_enter Tryd.func56, Tryd.ntmps56
            go_wp2_with (first
              | (go_at_call 55; rw [HW.out]; (with_reducible refine (HU1.out _).mono ?_); rintro e w1 ⟨rfl, hb1⟩
                 have x1 := (x0.call hb1).far (p := ⟨w.heap.size + 1, 0, none⟩) (by simp) (.string LAB)
                 have ya := y0.call hb1
                 have yc := ya.cell 0
                 have yf := ya.frozen 0
                 have yl := ya.lt
                 simp at yc
                 have y1 := ya.set_ 0 (.string LAB)
                 simp at y1
                 have K1 := Lib.hid ((kx.trans (hb1.mono kx.size)).setCell (p := ⟨w.heap.size + 1, 0, none⟩) (by simp) (.string LAB))
                 clear HU1)
              | (go_at_call 55; (with_reducible refine (HU2.out _).mono ?_); rintro e w2 ⟨rfl, hb2⟩
                 have x2 := x1.call hb2
                 have y2 := y1.call hb2
                 have K2 := Lib.hid (K1.out.trans (hb2.mono K1.out.size))
                 clear HU2)
              | (go_at_call 73; (with_reducible refine (HNM.out _).mono ?_); rintro e w3 ⟨rfl, hb3⟩
                 have x3 := x2.call hb3
                 have y3 := y2.call hb3
                 have K3 := Lib.hid (K2.out.trans (hb3.mono K2.out.size))
                 have cx0 := x3.cell 0
                 have cx1 := x3.cell 1
                 have cx2 := x3.cell 2
                 have cx3 := x3.cell 3
                 have cx4 := x3.cell 4
                 simp at cx0 cx1 cx2 cx3 cx4
                 have cy0 := y3.cell 0
                 have cy1 := y3.cell 1
                 have cy2 := y3.cell 2
                 have cy3 := y3.cell 3
                 have cy4 := y3.cell 4
                 simp at cy0 cy1 cy2 cy3 cy4
                 have fx0 := x3.frozen 0
                 have fx1 := x3.frozen 1
                 have fx2 := x3.frozen 2
                 have fx3 := x3.frozen 3
                 have fx4 := x3.frozen 4
                 have fy0 := y3.frozen 0
                 have fy1 := y3.frozen 1
                 have fy2 := y3.frozen 2
                 have fy3 := y3.frozen 3
                 have fy4 := y3.frozen 4
                 have lx := x3.lt
                 have ly := y3.lt
                 clear HNM)
              | (go_at_call 55; (with_reducible refine (HU3.out _).mono ?_); rintro e w4 ⟨rfl, hb4⟩
                 have x4 := (((x3.far (p := ⟨w.heap.size + 1, 1, none⟩) (by simp) (.int .u8 yy.fn)).far (p := ⟨w.heap.size + 1, 2, none⟩) (by simp) (.int .i32 yy.arg)).alloc (.cells #[.int .u8 yy.fn, .int .i32 yy.arg] 59)).call hb4
                 have y4 := (((y3.set_ 1 (.int .u8 yy.fn)).set_ 2 (.int .i32 yy.arg)).alloc (.cells #[.int .u8 yy.fn, .int .i32 yy.arg] 59)).call hb4
                 simp at y4
                 have K4 := Lib.hid ((((K3.out.setCell (p := ⟨w.heap.size + 1, 1, none⟩) (by simp) (.int .u8 yy.fn)).setCell (p := ⟨w.heap.size + 1, 2, none⟩) (by simp) (.int .i32 yy.arg)).alloc (by have := K3.out.size; simp; omega) (.cells #[.int .u8 yy.fn, .int .i32 yy.arg] 59)).trans (hb4.mono (by have := K3.out.size; simp; omega)))
                 have dx0 := x4.cell 0
                 have dx1 := x4.cell 1
                 have dx2 := x4.cell 2
                 have dx3 := x4.cell 3
                 have dx4 := x4.cell 4
                 simp at dx0 dx1 dx2 dx3 dx4
                 have dy0 := y4.cell 0
                 have dy1 := y4.cell 1
                 have dy2 := y4.cell 2
                 have dy3 := y4.cell 3
                 have dy4 := y4.cell 4
                 simp at dy0 dy1 dy2 dy3 dy4
                 have gx0 := x4.frozen 0
                 have gx1 := x4.frozen 1
                 have gx2 := x4.frozen 2
                 have gx3 := x4.frozen 3
                 have gx4 := x4.frozen 4
                 have gy0 := y4.frozen 0
                 have gy1 := y4.frozen 1
                 have gy2 := y4.frozen 2
                 have gy3 := y4.frozen 3
                 have gy4 := y4.frozen 4
                 have lx4 := x4.lt
                 have ly4 := y4.lt
                 clear HU3))
            have R := (((((((x4.far (p := ⟨w.heap.size + 1, 3, none⟩) (by simp) (.string TG)).far (p := ⟨w.heap.size + 1, 4, none⟩) (by simp) (.string FR)).set_ 0 (.string LAB)).set_ 1 (.int .u8 yy.fn)).set_ 2 (.int .i32 yy.arg)).set_ 3 (.string TG)).set_ 4 (.string FR))
            simp at R
            obtain ⟨d0, d1, d2, d3, d4⟩ := cells5 R
            have KF := (((((((K4.out.setCell (p := ⟨w.heap.size + 1, 3, none⟩) (by simp) (.string TG)).setCell (p := ⟨w.heap.size + 1, 4, none⟩) (by simp) (.string FR)).setCell (p := ⟨w.heap.size, 0, none⟩) (by simp) (.string LAB)).setCell (p := ⟨w.heap.size, 1, none⟩) (by simp) (.int .u8 yy.fn)).setCell (p := ⟨w.heap.size, 2, none⟩) (by simp) (.int .i32 yy.arg)).setCell (p := ⟨w.heap.size, 3, none⟩) (by simp) (.string TG)).setCell (p := ⟨w.heap.size, 4, none⟩) (by simp) (.string FR))
            generalize (((((((w4.setCell ⟨w.heap.size + 1, 3, none⟩ (.string TG)).setCell ⟨w.heap.size + 1, 4, none⟩ (.string FR)).setCell ⟨w.heap.size, 0, none⟩ (.string LAB)).setCell ⟨w.heap.size, 1, none⟩ (.int .u8 yy.fn)).setCell ⟨w.heap.size, 2, none⟩ (.int .i32 yy.arg)).setCell ⟨w.heap.size, 3, none⟩ (.string TG)).setCell ⟨w.heap.size, 4, none⟩ (.string FR)) = FW at *
            clear R
            refine bodyPost_ret (v := .agg #[(.string LAB), (.int .u8 yy.fn), (.int .i32 yy.arg), (.string TG), (.string FR)]) (by simp [results, Tryd.results56, go_sem, d0, d1, d2, d3, d4]) rfl ⟨by rw [HPE.out, ← HLAB.out, ← HTG.out, ← HFR.out]; rfl, KF⟩
end Go.Proofs.YtljeecocbcffcaaDoor

/- line of the reference, walked. -/
namespace Go.Proofs.YtljeecocbcffcaaDoor
open Go.RowKit Go.Maps Go.WideMaps Go.Shelf
set_option linter.unusedSimpArgs false
set_option linter.unusedVariables false

theorem rLine (l : List UInt8) (hl : l.length ≤ 4000000000) (w : World) : Calls Tryd.prog 56 #[.string (strB l)] w (RetV (.agg (lineC (parseR l))) w) := by
  unfold parseR
  by_cases h : (l.takeWhile (· != 58)).length + 1 < l.length
  · rw [if_pos h]
    exact rLine_lab l _ hl h rfl w
  · rw [if_neg h]
    exact rLine_no l hl h w
end Go.Proofs.YtljeecocbcffcaaDoor

/- A region that draws its order, whose operations only read and whose callees leave what lay: walked once, in the order of the text. -/
namespace Go.Proofs.YtljeecocbcffcaaDoor
open Go.RowKit
set_option linter.unusedVariables false
set_option linter.unusedSimpArgs false

/-- The worlds that a world may become where what lies below its end stays. -/
theorem fam_below (W : World) : ∃ (ι : Type) (F : ι → World) (i0 : ι), F i0 = W.drew ∧ (∀ i, Below W.heap.size W (F i)) ∧ (∀ i w', Below (F i).heap.size (F i) w' → ∃ j, w' = F j) :=
  ⟨{ w' : World // Below W.heap.size W w' }, Subtype.val, ⟨W.drew, (Below.refl _ _).drew⟩, rfl, fun i => i.2, fun i w' h => ⟨⟨w', i.2.trans (h.mono i.2.size)⟩, rfl⟩⟩
theorem wp_region_quiet_fam {P : Program} {ι : Type} (F : ι → World) (i0 : ι) {id : Nat} {Q : Exit → Act → World → Prop} {a : Act} {w : World} {l : List Oper} (h0 : F i0 = w.drew) (hm : P.follows .mixedOrders = true) (hB : Region.lexB .any l.toArray = true)
    (h : wpQuiet P l.toArray (fun w' => ∃ i, w' = F i) (fun a' => ∀ i, Q .normal a' (F i)) l a) : (Code.region id l.toArray true).wp P Q a w := by
  refine wp_region_quiet (C := fun w' => ∃ i, w' = F i) hm hB ⟨i0, h0.symm⟩ ?_
  have e : (fun a' : Act => ∀ w', (∃ i, w' = F i) → Q .normal a' w') = fun a' => ∀ i, Q .normal a' (F i) := by
    funext a'
    exact propext ⟨fun h i => h _ ⟨i, rfl⟩, fun h w' ⟨i, hi⟩ => hi ▸ h i⟩
  rw [e]
  simpa using h
end Go.Proofs.YtljeecocbcffcaaDoor

/- Read of the reference, walked. -/
namespace Go.Proofs.YtljeecocbcffcaaDoor
open Go.RowKit Go.Maps Go.WideMaps Go.Shelf
set_option linter.unusedSimpArgs false
set_option linter.unusedVariables false

theorem goodR (t : List UInt8) : (validB (parseR t) && oneT (parseR t) == t) = (validB (parseP t) && oneT (parseP t) == t) ∧ ((validB (parseR t) && oneT (parseR t) == t) = true → parseR t = parseP t) := by
  have h := lineR_eq t
  unfold lineP at h
  by_cases h1 : (validB (parseR t) && oneT (parseR t) == t) = true
  · rw [if_pos h1] at h
    by_cases h2 : (validB (parseP t) && oneT (parseP t) == t) = true
    · rw [if_pos h2] at h
      exact ⟨by rw [h1, h2], fun _ => Option.some.inj h⟩
    · rw [if_neg h2] at h; cases h
  · rw [if_neg h1] at h
    by_cases h2 : (validB (parseP t) && oneT (parseP t) == t) = true
    · rw [if_pos h2] at h; cases h
    · refine ⟨?_, fun h => absurd h h1⟩
      rw [Bool.eq_iff_iff]
      exact ⟨fun h => absurd h h1, fun h => absurd h h2⟩
theorem parseR_ok {l : List UInt8} (hl : l.length ≤ 4000000000) : LOk (parseR l) := by
  have sm : ∀ lab t : List UInt8, lab.length ≤ 4000000000 → t.length ≤ 4000000000 → (parseB lab t).label.length ≤ 4000000000 ∧ (parseB lab t).target.length ≤ 4000000000 ∧ (parseB lab t).frm.length ≤ 4000000000 ∧ (parseB lab t).fn ≤ 255 := by
    intro lab t h1 h2
    have hf := (fn_le _ _ (rfl : namedI (t.takeWhile (· != 32)) = _)).1
    have hd := (List.dropWhile_sublist (p := (· != 32)) (l := t)).length_le
    rw [parseB_eq]
    split
    · exact ⟨h1, by simp, by simp, hf⟩
    · rename_i c o ho
      rw [ho] at hd
      simp only [List.length_cons] at hd
      have t1 := (List.takeWhile_sublist (p := (· != 45)) (l := o)).length_le
      have t2 := (List.dropWhile_sublist (p := (· != 45)) (l := o)).length_le
      split
      · exact ⟨h1, by simp, by simp, hf⟩
      · refine ⟨h1, by simp only; omega, ?_, hf⟩
        simp only [List.length_tail]; omega
  have key : (parseR l).label.length ≤ 4000000000 ∧ (parseR l).target.length ≤ 4000000000 ∧ (parseR l).frm.length ≤ 4000000000 ∧ (parseR l).fn ≤ 255 := by
    have h3 := (List.takeWhile_sublist (p := (· != 58)) (l := l)).length_le
    unfold parseR
    split
    · exact sm _ _ (by omega) (by rw [List.length_drop]; omega)
    · exact sm _ _ (by simp) hl
  exact ⟨key.2.2.2, parseR_is32 l, by omega, by omega, by omega⟩
theorem take_lf (l : List UInt8) (c : UInt8) (h : l.dropWhile (· != c) ≠ []) : l.take ((l.takeWhile (· != c)).length + 1) = l.takeWhile (· != c) ++ [c] := by
  have h1 := tw_lt c l h
  have h2 := tw_end c l h1
  rw [List.take_add_one, h2, take_tw]
  rfl
set_option maxRecDepth 100000 in
set_option maxHeartbeats 4000000 in
theorem rReadL (s0 : List UInt8) (hs : s0.length ≤ 4000000000) (B : Nat) (w : World) (hL : Laid5 B w) (hB : B ≤ w.heap.size) :
    Calls Tryd.prog 26 #[.string (strB s0)] w (RetRd s0 w) := by
  have S0 := Lib.hid (S5.start hL hB)
  have hrp := readT_parts (s0.length + 1) s0 [] 0 (by omega)
  unfold RetRd
  generalize readT (s0.length + 1) s0 [] 0 = RT at *
  have HRP := Lib.hid hrp
  clear hL hrp
  have HBB := Lib.hid hB
  clear hB
  obtain ⟨i0, hi0, hz0, hz1, hz2⟩ := info_parts line_info
  have hn0 : w.ownsRow w.heap.size 27 5 (.slice none 0 0) ([] : List LineL).length (linesL []) := World.ownsRow_nil _ _ _ _
  have HN0 := Lib.hid hn0
  clear hn0
  go_enter Tryd.func26, Tryd.ntmps26
  go_wp2
  go_loopw [0, 5, 6] (fun x v i wr => ∃ (t : List UInt8) (acc : List LineL) (k : Nat), x = .string (strB t) ∧ i = .int .i64 ((k : Int) + 1) ∧ k + t.length ≤ s0.length ∧ acc.length = k ∧ Hid (RT = readP (partsL t) acc k) ∧ Hid (S5 B w wr) ∧ Hid (wr.ownsRow w.heap.size 27 5 v acc.length (linesL acc))) (fun x _ _ _ => match x with | .string s => s.size | _ => 0)
  case atStart => exact ⟨s0, [], 0, rfl, rfl, by omega, rfl, HRP, S0, HN0⟩
  case round =>
    clear S0 HN0
    obtain ⟨t, acc, k, rfl, rfl, hkt, hak, HR, S, O⟩ := hrel
    have te := strB_empty t
    by_cases ht : t = []
    · subst ht
      have hRT : Hid (RT = (acc, 0, 0)) := Lib.hid (by rw [HR.out]; rfl)
      obtain ⟨A2, c2, rfl⟩ := own_form O.out
      have te2 : (strB []).toList.isEmpty = true := te
      clear te HR
      generalize strB [] = T at *
      go_wp2
      go_ret3
      rw [hRT.out]
      exact ⟨S.out.k, A2, c2, rfl, O.out⟩
    · have hz : t.isEmpty = false := by simpa using ht
      rw [hz] at te
      have htl : t.length ≤ 4000000000 := by omega
      have htw := tw_le 10 t
      have HU := Lib.hid (fun w => rUp t 10 htl w)
      rw [show ((10 : UInt8).toNat : Int) = 10 from rfl] at HU
      have hpre := ext_pre t 10
      have hsz := strB_size t
      have hpc := partsL_cons hz
      rw [hpc] at HR
      have HLN := Lib.hid (fun w => rLine (t.takeWhile (· != 10)) (by omega) w)
      have HXO := Lib.hid (parseR_ok (l := t.takeWhile (· != 10)) (by omega))
      have HVA := Lib.hid (fun w h1 h2 => rValid (parseR (t.takeWhile (· != 10))) HXO.out B w h1 h2)
      have HON := Lib.hid (fun w h1 h2 => rOne (parseR (t.takeWhile (· != 10))) HXO.out B w h1 h2)
      have hgood := goodR (t.takeWhile (· != 10))
      cases hd : t.dropWhile (· != 10) with
      | nil =>
        have hk3 : (t.takeWhile (· != 10)).length = (strB t).size := by
          have h := List.takeWhile_append_dropWhile (p := (· != (10 : UInt8))) (l := t)
          rw [hd, List.append_nil] at h
          rw [h, hsz]
        have hRT : Hid (RT = ([], k + 1, 5)) := Lib.hid (by
          rw [HR.out, hd, readP, if_neg (by simp [goodP])])
        have hSs : (strB t).size ≤ 4000000000 := by rw [hsz]; exact htl
        clear hgood hpc HON HR
        generalize parseR (t.takeWhile (· != 10)) = X at *
        generalize (t.takeWhile (· != 10)).length = k3 at *
        generalize strB (t.takeWhile (· != 10)) = P at *
        generalize strB t = T at *
        subst hk3
        have hbx := fun w : World => Blk.new w 27 (lineC X)
        simp only [lineC] at HLN hbx
        have HBX := Lib.hid hbx
        clear hbx hd ht hz hsz htw
        go_upto_region 7 with (first
          | (go_at_call 55; (with_reducible refine (HU.out _).mono ?_); rintro e w1 ⟨rfl, hb1⟩
             have S1 := Lib.hid (S.out.call hb1))
          | (go_at_call 56; (with_reducible refine (HLN.out _).mono ?_); rintro e w2 ⟨rfl, hb2⟩
             have S2 := Lib.hid (S1.out.call hb2)
             have b2 := HBX.out w2))
        have KF := Lib.hid (S2.out.alloc (.cells #[.string (strB X.label), .int .u8 X.fn, .int .i32 X.arg, .string (strB X.target), .string (strB X.frm)] 27)).k
        have hTT : ((T.size : Int) == (T.size : Int)) = true := by simp
        go_quiet (fail)
        go_wp2
        go_ret3
        rw [hRT.out]
        exact ⟨below_drewN KF.out _, none, 0, rfl, World.ownsRow_nil _ _ _ _⟩
      | cons a o =>
        have ha : a = 10 := by
          have h := List.head?_dropWhile_not (p := (· != (10 : UInt8))) (l := t)
          rw [hd] at h
          simpa using h
        subst ha
        have hlt := tw_lt 10 t (by rw [hd]; simp)
        have hSs : (strB t).size ≤ 4000000000 := by rw [hsz]; exact htl
        have hk3S : (t.takeWhile (· != 10)).length < (strB t).size := by rw [hsz]; exact hlt
        have hline : (strB t).extract 0 ((t.takeWhile (· != 10)).length + 1) = strB (t.takeWhile (· != 10) ++ [10]) := by
          rw [ext_take, show (strB t).data.toList = t by simp [strB], take_lf t 10 (by rw [hd]; simp)]
        have hrest : (strB t).extract ((t.takeWhile (· != 10)).length + 1) (strB t).size = strB o := by
          rw [ext_rest, drop_tw1, hd]; rfl
        have hol : o.length + (t.takeWhile (· != 10)).length + 1 = t.length := by
          have h := congrArg List.length (List.takeWhile_append_dropWhile (p := (· != (10 : UInt8))) (l := t))
          rw [hd, List.length_append, List.length_cons] at h
          omega
        rw [hd] at HR
        simp only [List.isEmpty_cons, Bool.not_false, List.tail_cons] at HR
        have hcmp := str_eqs (oneT (parseR (t.takeWhile (· != 10))) ++ [10]) (t.takeWhile (· != 10) ++ [10])
        have hcmp2 : ((oneT (parseR (t.takeWhile (· != 10))) ++ [10]) == (t.takeWhile (· != 10) ++ [10])) = (oneT (parseR (t.takeWhile (· != 10))) == t.takeWhile (· != 10)) := by
          rw [Bool.eq_iff_iff, beq_iff_eq, beq_iff_eq]
          simp
        rw [hcmp2] at hcmp
        have hRT : Hid (RT = if validB (parseR (t.takeWhile (· != 10))) && oneT (parseR (t.takeWhile (· != 10))) == t.takeWhile (· != 10) then readP (partsL o) (acc ++ [parseR (t.takeWhile (· != 10))]) (k + 1) else ([], k + 1, 5)) := Lib.hid (by
          rw [HR.out, readP]
          simp only [goodP, Bool.true_and]
          rw [hgood.1]
          by_cases h : (validB (parseP (t.takeWhile (· != 10))) && oneT (parseP (t.takeWhile (· != 10))) == t.takeWhile (· != 10)) = true
          · rw [if_pos h, if_pos h, hgood.2 (by rw [hgood.1]; exact h)]
          · rw [if_neg h, if_neg h])
        clear hgood hpc HR hcmp2 hd hz ht htw
        have hol2 := strB_size (oneT (parseR (t.takeWhile (· != 10))) ++ [10])
        generalize parseR (t.takeWhile (· != 10)) = X at *
        generalize strB (t.takeWhile (· != 10) ++ [10]) = TL at *
        generalize (oneT X == t.takeWhile (· != 10)) = ceq at *
        generalize (t.takeWhile (· != 10)).length = k3 at *
        generalize strB (t.takeWhile (· != 10)) = P at *
        generalize strB t = T at *
        generalize strB (oneT X ++ [10]) = SO at *
        have HSZ := Lib.hid hsz
        have HOL2 := Lib.hid hol2
        have hol3 : SO.size ≤ 5000000000 ∨ True := .inr trivial
        have hk3n : ((k3 : Int) == (T.size : Int)) = false := by rw [beq_eq_false_iff_ne]; omega
        have hk30 : (0 : Int) ≤ (k3 : Int) + 1 := by omega
        have hk31 : (k3 : Int) + 1 ≤ T.size := by omega
        have hk32 : (0 : Int) ≤ (k3 : Int) := by omega
        have hk33 : (k3 : Int) ≤ T.size := by omega
        have hbx := fun w : World => Blk.new w 27 (lineC X)
        simp only [lineC] at HLN hbx HVA HON
        have HBX := Lib.hid hbx
        clear hbx hsz hol2 hol3
        generalize hvb : validB X = vb at *
        clear hvb
        go_upto_region 7 with (first
          | (go_at_call 55; (with_reducible refine (HU.out _).mono ?_); rintro e w1 ⟨rfl, hb1⟩
             have S1 := Lib.hid (S.out.call hb1)
             have O1 := Lib.hid (O.out.keep hb1 (Nat.le_refl _)))
          | (go_at_call 56; (with_reducible refine (HLN.out _).mono ?_); rintro e w2 ⟨rfl, hb2⟩
             have S2 := Lib.hid (S1.out.call hb2)
             have O2 := Lib.hid (O1.out.keep hb2 (Nat.le_refl _))
             have b2 := HBX.out w2))
        have S3 := Lib.hid (S2.out.alloc (.cells #[.string (strB X.label), .int .u8 X.fn, .int .i32 X.arg, .string (strB X.target), .string (strB X.frm)] 27))
        have O3 := Lib.hid (O2.out.alloc (.cells #[.string (strB X.label), .int .u8 X.fn, .int .i32 X.arg, .string (strB X.target), .string (strB X.frm)] 27))
        obtain ⟨g, hg⟩ : ∃ g, w2.heap.size = g := ⟨_, rfl⟩
        rw [hg] at b2 ⊢
        obtain ⟨W3, hW3⟩ : ∃ W, w2.alloc (.cells #[.string (strB X.label), .int .u8 X.fn, .int .i32 X.arg, .string (strB X.target), .string (strB X.frm)] 27) = W := ⟨_, rfl⟩
        rw [hW3] at b2 S3 O3 ⊢
        have HBK := Lib.hid b2
        clear hg hW3 HU HLN S1 O1 S2 O2
        have c0 := HBK.out.cell 0
        have c1 := HBK.out.cell 1
        have c2 := HBK.out.cell 2
        have c3 := HBK.out.cell 3
        have c4 := HBK.out.cell 4
        simp at c0 c1 c2 c3 c4
        obtain ⟨ι, F, i0', h0', hFb, hcl⟩ := fam_below W3
        have c0F : ∀ i, (F i).cell? ⟨g, 0, none⟩ = some (.string (strB X.label)) := fun i => ((hFb i).cell (p := ⟨g, 0, none⟩) HBK.out.lt).trans c0
        have c1F : ∀ i, (F i).cell? ⟨g, 1, none⟩ = some (.int .u8 X.fn) := fun i => ((hFb i).cell (p := ⟨g, 1, none⟩) HBK.out.lt).trans c1
        have c2F : ∀ i, (F i).cell? ⟨g, 2, none⟩ = some (.int .i32 X.arg) := fun i => ((hFb i).cell (p := ⟨g, 2, none⟩) HBK.out.lt).trans c2
        have c3F : ∀ i, (F i).cell? ⟨g, 3, none⟩ = some (.string (strB X.target)) := fun i => ((hFb i).cell (p := ⟨g, 3, none⟩) HBK.out.lt).trans c3
        have c4F : ∀ i, (F i).cell? ⟨g, 4, none⟩ = some (.string (strB X.frm)) := fun i => ((hFb i).cell (p := ⟨g, 4, none⟩) HBK.out.lt).trans c4
        have SF : ∀ i, S5 B w (F i) := fun i => S3.out.call (hFb i)
        have HVF := Lib.hid (fun i => HVA.out (F i) (SF i).l (SF i).b)
        have HOF := Lib.hid (fun i => HON.out (F i) (SF i).l (SF i).b)
        haveI : Nonempty ι := ⟨i0'⟩
        clear HVA HON SF
        cases vb with
        | false =>
          rw [Bool.false_and] at hRT
          have hRT2 : Hid (RT = ([], k + 1, 5)) := Lib.hid (by rw [hRT.out]; rfl)
          clear hRT
          refine wp_region_quiet_fam F i0' h0' (by kernel_rfl) (by kernel_rfl) ?_
          repeat (go_big_quiet_step (first
            | (go_at_call 57; refine (HVF.out _).mono ?_; rintro e w4 ⟨rfl, hb4⟩; exact ⟨rfl, hcl _ _ hb4⟩)
            | (go_at_call 58; refine (HOF.out _).mono ?_; rintro e w4 ⟨rfl, hb4⟩; exact ⟨rfl, hcl _ _ hb4⟩)))
          refine wpQuiet_nil ?_
          intro i
          have K5 := Lib.hid (S3.out.call (hFb i))
          have O5 := Lib.hid (O3.out.keep (hFb i) (Nat.le_refl _))
          clear O5 O3 S3 hcl HVF HOF
          go_wp2
          go_ret3
          rw [hRT2.out]
          exact ⟨K5.out.k, none, 0, rfl, World.ownsRow_nil _ _ _ _⟩
        | true =>
          rw [Bool.true_and] at hRT
          cases ceq with
          | false =>
            have hRT2 : Hid (RT = ([], k + 1, 5)) := Lib.hid (by rw [hRT.out]; rfl)
            clear hRT
            refine wp_region_quiet_fam F i0' h0' (by kernel_rfl) (by kernel_rfl) ?_
            repeat (go_big_quiet_step (first
              | (go_at_call 57; refine (HVF.out _).mono ?_; rintro e w4 ⟨rfl, hb4⟩; exact ⟨rfl, hcl _ _ hb4⟩)
              | (go_at_call 58; refine (HOF.out _).mono ?_; rintro e w4 ⟨rfl, hb4⟩; exact ⟨rfl, hcl _ _ hb4⟩)))
            refine wpQuiet_nil ?_
            intro i
            have K5 := Lib.hid (S3.out.call (hFb i))
            have O5 := Lib.hid (O3.out.keep (hFb i) (Nat.le_refl _))
            clear O5 O3 S3 hcl HVF HOF
            go_wp2
            go_ret3
            rw [hRT2.out]
            exact ⟨K5.out.k, none, 0, rfl, World.ownsRow_nil _ _ _ _⟩
          | true =>
            have hRT2 : Hid (RT = readP (partsL o) (acc ++ [X]) (k + 1)) := Lib.hid (by rw [hRT.out]; rfl)
            clear hRT
            refine wp_region_quiet_fam F i0' h0' (by kernel_rfl) (by kernel_rfl) ?_
            repeat (go_big_quiet_step (first
              | (go_at_call 57; refine (HVF.out _).mono ?_; rintro e w4 ⟨rfl, hb4⟩; exact ⟨rfl, hcl _ _ hb4⟩)
              | (go_at_call 58; refine (HOF.out _).mono ?_; rintro e w4 ⟨rfl, hb4⟩; exact ⟨rfl, hcl _ _ hb4⟩)))
            refine wpQuiet_nil ?_
            intro i
            have K5 := Lib.hid (S3.out.call (hFb i))
            have O5 := Lib.hid (O3.out.keep (hFb i) (Nat.le_refl _))
            have bg := HBK.out.below (hFb i) HBK.out.lt
            have e0 := c0F i
            have e1 := c1F i
            have e2 := c2F i
            have e3 := c3F i
            have e4 := c4F i
            have hgi := bg.lt
            have bX := Blk.new (F i) 27 (lineC X)
            have O6 := Lib.hid (O5.out.alloc (.cells (lineC X) 27))
            have K6 := Lib.hid (K5.out.alloc (.cells (lineC X) 27))
            have hsn := linesL_snoc acc X
            simp only [lineC] at bX O6 K6
            clear hcl HVF HOF O3 S3 c0F c1F c2F c3F c4F hFb h0' O5 K5
            generalize F i = Wi at *
            have hacc := hak
            go_upto_region 10 with (at_builtin; refine wpList_app_own rfl (.tmp 38) (.tmp 40) rfl Tryd.underlying24 hi0 hz0 hz1 hz2 rfl (by decide) O6.out (Nat.le_trans K6.out.k.size (by simp)) rfl Wi.heap.size 1 1 #[.string (strB X.label), .int .u8 X.fn, .int .i32 X.arg, .string (strB X.target), .string (strB X.frm)] rfl bX rfl (by simp [Value.oneCell']) (by omega) (by omega) ?_; intro v' w7 hown7 hg7 hb7)
            have K7 := Lib.hid (K6.out.grownR O6.out hg7 HBB.out)
            have O7 : Hid (w7.ownsRow w.heap.size 27 5 v' (acc ++ [X]).length (linesL (acc ++ [X]))) := Lib.hid (by
              rw [hsn, List.length_append]
              exact hown7)
            have HO := Lib.hid (strB_size o)
            clear hown7 hg7 hb7 O6 K6 hsn bX bg
            go_wp2
            go_roundw
            case rel => exact ⟨o, acc ++ [X], k + 1, rfl, by go_num, by omega, by simp [hacc], hRT2, K7, O7⟩
            case measure =>
              show (strB o).size < T.size
              rw [HO.out, HSZ.out]
              omega
end Go.Proofs.YtljeecocbcffcaaDoor

/- AsmText, walked. -/
namespace Go.Proofs.YtljeecocbcffcaaDoor
open Go.RowKit Go.Maps Go.WideMaps Go.Shelf
set_option linter.unusedSimpArgs false
set_option linter.unusedVariables false

theorem textT_len : ∀ ls : List LineL, ls.length ≤ (textT ls).length
  | [] => by simp [textT]
  | x :: r => by
    have := textT_len r
    have e : textT (x :: r) = (oneT x ++ [10]) ++ textT r := by simp [textT]
    rw [e, List.length_append, List.length_append, List.length_cons]
    simp; omega
end Go.Proofs.YtljeecocbcffcaaDoor

/- AsmRead, walked. -/
namespace Go.Proofs.YtljeecocbcffcaaDoor
open Go.RowKit Go.Maps Go.WideMaps Go.Shelf
set_option linter.unusedSimpArgs false
set_option linter.unusedVariables false

theorem partsF_lenS : ∀ (k : Nat) (l : List UInt8), (partsF k l).length ≤ k
  | 0, _ => by simp [partsF]
  | k + 1, l => by
    rw [partsF]
    split
    · simp
    · have := partsF_lenS k (l.dropWhile (· != 10)).tail
      simp only [List.length_cons]; omega
theorem readP_lenS : ∀ (xs : List (List UInt8 × Bool)) (acc : List LineL) (n : Nat), (readP xs acc n).1.length ≤ acc.length + xs.length
  | [], acc, n => by simp [readP]
  | p :: r, acc, n => by
    rw [readP]
    split
    · have := readP_lenS r (acc ++ [parseP p.1]) (n + 1)
      simp only [List.length_append, List.length_cons, List.length_nil] at this ⊢
      omega
    · simp
theorem readT_len (s : List UInt8) : (readT (s.length + 1) s [] 0).1.length ≤ s.length := by
  rw [readT_parts _ _ _ _ (by omega)]
  have h1 := readP_lenS (partsL s) [] 0
  have h2 := partsF_lenS s.length s
  unfold partsL at h1 ⊢
  simp only [List.length_nil] at h1
  omega
set_option maxRecDepth 100000 in
set_option maxHeartbeats 4000000 in
theorem read_true (S : ByteArray) (B : Nat) (w : World) (hL : Laid5 B w) (hm : MaxAt B w) (hB : B ≤ w.heap.size) (hgB : 1 < B) :
    Calls Tryd.prog 8 #[.string S] w (RetV (.bool true) w) := by
  have S0 := Lib.hid (S6.start hL hm hB)
  have HH := Lib.hid (fun w h1 h2 h3 => lHead B w h1 h2 h3 hgB)
  by_cases hn : 3000 < S.size
  · clear hL hm hB
    have hnI : 3000 < (S.size : Int) := by omega
    go_enter Tryd.func8, Tryd.ntmps8
    go_wp2_with (go_at_call 24; refine (HH.out _ S0.out.l S0.out.m S0.out.b).mono ?_; rintro e w2 ⟨rfl, hb2⟩)
    go_ret
    exact ⟨rfl, hb2⟩
  · have hnI : ¬ 3000 < (S.size : Int) := by omega
    obtain ⟨s, hs⟩ : ∃ s, S.data.toList = s := ⟨_, rfl⟩
    have hSs : S = strB s := by
      rw [← hs]
      rcases S with ⟨d⟩
      simp [strB]
    have hsl : s.length = S.size := by rw [hSs, strB_size]
    have hlen := readT_len s
    have HP := Lib.hid (fun w1 h1 h2 h3 => pReadL s (by omega) B w1 h1 h2 h3 hgB)
    have HQ := Lib.hid (fun w1 h1 h2 => rReadL s (by omega) B w1 h1 h2)
    unfold RetRd at HP HQ
    obtain ⟨R, hR⟩ : ∃ R, readT (s.length + 1) s [] 0 = R := ⟨_, rfl⟩
    rw [hR] at HP HQ hlen
    obtain ⟨L, k, z⟩ := R
    simp only at HP HQ hlen
    rw [← hSs] at HP HQ
    have hLn : L.length ≤ 1000000 := by omega
    have HSL := Lib.hid (fun A2 c2 A1 c1 w1 h1 h2 => sLines A2 A1 L.length c2 L.length c1 L L w1 h1 h2 hLn)
    rw [decide_eq_true rfl] at HSL
    clear hL hm hB hR hs hsl hSs hlen
    generalize hll : linesL L = LL at *
    generalize L.length = n at *
    clear hll
    have hnn : ((n : Int) == (n : Int)) = true := by simp
    go_enter Tryd.func8, Tryd.ntmps8
    go_wp2_with (first
      | (go_at_call 25; (with_reducible refine (HP.out _ S0.out.l S0.out.m S0.out.b).mono ?_); rintro e w1 ⟨hb1, a1, c1, rfl, hl1⟩
         have S1 := Lib.hid (S0.out.call hb1)
         have L1 := Lib.hid hl1
         clear hb1 hl1)
      | (go_at_call 26; (with_reducible refine (HQ.out _ S1.out.l S1.out.b).mono ?_); rintro e w2 ⟨hb2, a2, c2, rfl, hl2⟩
         have S2 := Lib.hid (S1.out.call hb2)
         have L2 := Lib.hid (L1.out.keep hb2 (Nat.le_refl _))
         have HS2 := Lib.hid (HSL.out a1 c1 a2 c2 w2 (Reads.of_own L2.out) (Reads.of_own hl2))
         clear hb2 hl2)
      | (go_at_call 27; (with_reducible refine HS2.out.mono ?_); rintro e w5 ⟨rfl, hb5⟩
         have S5' := Lib.hid (S2.out.call hb5)
         clear hb5)
      | (go_at_call 24; refine (HH.out _ S5'.out.l S5'.out.m S5'.out.b).mono ?_; rintro e w9 ⟨rfl, hb9⟩
         have K9 := Lib.hid (S5'.out.call hb9).k))
    go_ret
    exact ⟨rfl, K9.out⟩
end Go.Proofs.YtljeecocbcffcaaDoor
