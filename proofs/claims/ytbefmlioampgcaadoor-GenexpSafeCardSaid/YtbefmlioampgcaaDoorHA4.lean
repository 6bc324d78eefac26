/- check, walked: the loop over the lines' forms. -/
import Derived.Test.YtbefmlioampgcaaDoorHK8
namespace Go.Proofs.YtbefmlioampgcaaDoor
open Go.RowKit Go.Maps Go.WideMaps

theorem lines_at {w : World} {B n : Nat} {A : Option Addr} {ls : List LineL} (h : Reads w B 5 A n (linesL ls)) {k : Nat} (hk : k < n) :
    ∃ b off x, A = some ⟨b, off, none⟩ ∧ b < B ∧ ls[k]? = some x ∧ w.cell? ⟨b, off + k * 5, none⟩ = some (.string (strB x.label)) ∧ w.cell? ⟨b, off + k * 5 + 1, none⟩ = some (.int .u8 x.fn) ∧ w.cell? ⟨b, off + k * 5 + 2, none⟩ = some (.int .i32 x.arg) ∧
      w.cell? ⟨b, off + k * 5 + 3, none⟩ = some (.string (strB x.target)) ∧ w.cell? ⟨b, off + k * 5 + 4, none⟩ = some (.string (strB x.frm)) := by
  have hl := h.1
  rw [linesL_len] at hl
  obtain ⟨b, off, rfl, hb, hc⟩ := h.addr (by omega) (by omega)
  obtain ⟨x, hx⟩ : ∃ x, ls[k]? = some x := ⟨_, List.getElem?_eq_getElem (by omega)⟩
  obtain ⟨h0, h1, h2, h3, h4⟩ := linesL_at hx
  rw [Nat.mul_comm] at h0 h1 h2 h3 h4
  have c0 := hc _ _ h0
  have c1 := hc _ _ h1
  have c2 := hc _ _ h2
  have c3 := hc _ _ h3
  have c4 := hc _ _ h4
  simp only [← Nat.add_assoc] at c1 c2 c3 c4
  exact ⟨b, off, x, rfl, hb, hx, c0, c1, c2, c3, c4⟩
theorem lines_len {w : World} {B n : Nat} {A : Option Addr} {ls : List LineL} (h : Reads w B 5 A n (linesL ls)) : ls.length = n := by
  have hl := h.1
  rw [linesL_len] at hl
  omega
theorem all_take_succ {ls : List LineL} {k : Nat} {x : LineL} (hx : ls[k]? = some x) (h : (ls.take k).all validB = true) (hv : validB x = true) : (ls.take (k + 1)).all validB = true := by
  rw [List.take_add_one, hx, List.all_append, h]
  simp [hv]
theorem take_succ_of {ls : List LineL} {k : Nat} {x : LineL} (hx : ls[k]? = some x) : ls.take (k + 1) = ls.take k ++ [x] := by
  rw [List.take_add_one, hx]; rfl
abbrev OwnI (w : World) (b n : Nat) (D : DataW Unit) : Prop := w.ownsMap Tryd.prog 9 (plainElem (H := Unit) Tryd.prog 3) b n D
theorem lawStr : Keyed Tryd.prog 9 := string_keyed Tryd.underlying9
set_option maxRecDepth 100000 in
theorem str_key {l : List UInt8} (h : l.length ≤ 281474976710656) : keyOf Tryd.prog 9 (.string (strB l)) = some (.string l) := by
  have h1 := keyOf_string_mk (P := Tryd.prog) Tryd.underlying9 (s := strB l) (by rw [strB_size]; unfold maxLen; omega)
  have e : (strB l).data.toList = l := by simp [strB]
  rwa [e] at h1
theorem zero_int (w : World) : (zeroValue 3).run Tryd.prog w = .ok (.int .i64 0) w := by kernel_rfl
set_option maxRecDepth 100000 in
theorem own_ok {w : World} {b n : Nat} {D : DataW Unit} (h : OwnI w b n D) {l : List UInt8} (hl : l.length ≤ 281474976710656) :
    ∃ c, (Instr.lookup 63 (.map (some b)) (.string (strB l)) true).run Tryd.prog w = .ok (.tuple #[.int .i64 c, .bool (Maps.has D (.string l))]) w := by
  obtain ⟨v, ps, hrun, hv⟩ := h.look_ok lawStr Tryd.underlying63 (zero_int w) (plainElem_int Tryd.underlying3 (by decide)) (str_key hl)
  obtain ⟨c, rfl, -⟩ := plainElem_int_inv Tryd.underlying3 hv
  exact ⟨c, hrun⟩
set_option maxRecDepth 100000 in
theorem own_at {w : World} {b n : Nat} {ls : List LineL} (h : OwnI w b n (mapL ls)) (hd : Dist ls) {l : List UInt8} (hl : l.length ≤ 281474976710656) (hne : l ≠ []) :
    (Instr.lookup 63 (.map (some b)) (.string (strB l)) false).run Tryd.prog w = .ok (.int .i64 ((atL ls l).getD 0 : Nat)) w := by
  obtain ⟨c, hrun, hat, -⟩ := h.lookup_int lawStr Tryd.underlying63 Tryd.underlying3 (zero_int w) (str_key hl)
  rw [mapL_at hd hne] at hat
  injection hat with hat
  injection hat with _ hat
  rw [← hat] at hrun
  exact hrun
theorem S5.own {B : Nat} {w0 w w1 : World} {b : Nat} (h : S5 B w0 w) (hg : w.grownBy w1 (some b)) (hB : B ≤ w0.heap.size) (hb : w0.heap.size ≤ b) : S5 B w0 w1 := by
  have k1 : Below w0.heap.size w0 w1 := h.k.grown hg h.k.size (fun k e => by injection e; omega)
  have k2 : Below B w w1 := (Below.refl B w).grown hg h.b (fun k e => by injection e; omega)
  exact ⟨h.l.on k2, Nat.le_trans h.b hg.size, k1⟩
theorem own_call {w w1 : World} {b n : Nat} {D : DataW Unit} (h : OwnI w b n D) (hb : Below w.heap.size w w1) : OwnI w1 b n D := h.kept (row := none) ⟨hb.os, hb.tape, hb.output, hb.size, fun k hk _ => hb.block k hk⟩ (by simp)

/-- What check leaves. -/
def RetC (ls : List LineL) (w : World) (e : Ending) (w' : World) : Prop :=
  Below w.heap.size w w' ∧ ((checkE ls = 0 ∧ ∃ b n, e = .returned (.tuple #[.map (some b), .int .i64 0]) ∧ OwnI w' b n (mapL ls) ∧ w.heap.size ≤ b ∧ Dist ls) ∨
    (checkE ls ≠ 0 ∧ e = .returned (.tuple #[.map none, .int .i64 (checkE ls)])))
set_option maxRecDepth 100000 in
set_option maxHeartbeats 4000000 in
theorem pCheck (ls : List LineL) (hok : ∀ x ∈ ls, LOk x) (A : Option Addr) (n c : Nat) (hn : n ≤ 1000000) (B : Nat) (w : World) (hr : Reads w w.heap.size 5 A n (linesL ls)) (hL : Laid5 B w) (hB : B ≤ w.heap.size) :
    Calls Tryd.prog 69 #[.slice A n c] w (RetC ls w) := by
  have S := Lib.hid (S5.start hL hB)
  have HR := Lib.hid hr
  have HK := Lib.hid hok
  have HB := Lib.hid hB
  have HN := Lib.hid (lines_len hr)
  have hmm := @run_makeMap Tryd.prog
  clear hr hok hL hB
  go_enter Tryd.func69, Tryd.ntmps69
  go_wp2
  go_loopw [19] (fun i wr => ∃ k : Nat, k ≤ n ∧ i = .int .i64 k ∧ Hid (S5 B w wr) ∧ Hid ((ls.take k).all validB = true)) (fun i _ => n - (intOf i).toNat)
  case atStart => exact ⟨0, by omega, rfl, S, Lib.hid (by simp)⟩
  case round =>
    clear S
    obtain ⟨k, hk, rfl, S, HV⟩ := hrel
    by_cases hlt : k < n
    · have hltI : (k : Int) < n := by omega
      obtain ⟨b, off, x, rfl, hb, hx, c0, c1, c2, c3, c4⟩ := lines_at (HR.out.below S.out.k) hlt
      have hbs : b < wr.heap.size := by have := S.out.k.size; omega
      have b0 := Blk.new wr 51 (lineC x)
      have HS1 := Lib.hid (S.out.alloc (.cells (lineC x) 51))
      have HC := Lib.hid (pValid x (HK.out x (List.mem_of_getElem? hx)) B _ HS1.out.l HS1.out.b)
      simp only [lineC] at b0 HS1 HC
      have HX := Lib.hid hx
      clear hx
      generalize hv : validB x = bv at *
      have HVX := Lib.hid hv
      clear hv
      cases bv
      · go_wp2_with (go_at_call 96; refine HC.out.mono ?_; rintro e w1 ⟨rfl, hb1⟩)
        have e2 := check_two HX.out HVX.out
        go_ret2
        exact ⟨(HS1.out.call hb1).k, .inr ⟨by rw [e2]; decide, by rw [e2]; rfl⟩⟩
      · go_wp2_with (go_at_call 96; refine HC.out.mono ?_; rintro e w1 ⟨rfl, hb1⟩)
        go_roundw
        case rel => exact ⟨k + 1, by omega, by go_num, Lib.hid (HS1.out.call hb1), Lib.hid (all_take_succ HX.out HV.out HVX.out)⟩
        case measure => simp [intOf]; omega
    · have hltI : ¬ (k : Int) < n := by omega
      obtain rfl : n = k := by omega
      have HA : Hid (ls.all validB = true) := Lib.hid (by have := HV.out; rwa [List.take_of_length_le (by rw [HN.out]; omega)] at this)
      clear HV
      obtain ⟨m, hm⟩ : ∃ m, wr.heap.size = m := ⟨_, rfl⟩
      have HM := Lib.hid (show w.heap.size ≤ m by rw [← hm]; exact S.out.k.size)
      have hO : OwnI (wr.alloc (.map #[] 0)) wr.heap.size 0 (mapL []) := World.ownsMap_made _ _ _ _
      have HO := Lib.hid hO
      have HS := Lib.hid (S.out.alloc (.map #[] 0))
      clear S hO
      rw [hm] at HO
      go_wp2
      go_loopw [30] (fun i wr => ∃ k q : Nat, k ≤ n ∧ i = .int .i64 k ∧ q ≤ k ∧ Hid (S5 B w wr) ∧ Hid (OwnI wr m q (mapL (ls.take k))) ∧ Hid (Dist (ls.take k))) (fun i _ => n - (intOf i).toNat)
      case atStart => exact ⟨0, 0, by omega, rfl, by omega, HS, Lib.hid (by simpa using HO.out), Lib.hid (by simpa using Dist.nil)⟩
      case round =>
        clear HS HO hm
        obtain ⟨k, q, hk, rfl, hq, S, HO, HD⟩ := hrel
        by_cases hlt : k < n
        · have hltI : (k : Int) < n := by omega
          obtain ⟨b, off, x, rfl, hb, hx, c0, c1, c2, c3, c4⟩ := lines_at (HR.out.below S.out.k) hlt
          have hbs : b < wr.heap.size := by have := S.out.k.size; omega
          have HS1 := Lib.hid (S.out.alloc (.cells (lineC x) 51))
          have HO1 := Lib.hid (HO.out.alloc (.cells (lineC x) 51))
          have HXO := Lib.hid (HK.out x (List.mem_of_getElem? hx))
          obtain ⟨cv, hrun⟩ := own_ok HO1.out HXO.out.label
          have hhas := mapL_has x.label (ls.take k)
          have hkey := str_key HXO.out.label
          have hpi : plainElem (H := Unit) Tryd.prog 3 (.int .i64 (k : Int)) = some (.lit (.int .i64 k), []) := plainElem_int Tryd.underlying3 (WalkArith.wf_i64 (by omega))
          simp only [lineC] at HS1 HO1 hrun
          have HX := Lib.hid hx
          have HKY := Lib.hid hkey
          have HPI := Lib.hid hpi
          clear hx hkey hpi S HO
          have el := strB_empty x.label
          by_cases hle : x.label = []
          · have hle2 : x.label.isEmpty = true := by rw [hle]; rfl
            rw [hle2] at el
            have hmap : mapL (ls.take (k + 1)) = mapL (ls.take k) := by rw [take_succ_of HX.out, mapL_snoc, if_pos hle2]
            have HMAP := Lib.hid hmap
            have HD2 := Lib.hid (show Dist (ls.take (k + 1)) by rw [take_succ_of HX.out]; exact HD.out.snoc (fun h => absurd hle h))
            clear hmap hle hle2 hhas
            generalize Maps.has (mapL (ls.take k)) (Lit.string x.label) = hs at *
            generalize strB x.label = SL at *
            go_wp2
            go_roundw
            case rel => exact ⟨k + 1, q, by omega, by go_num, by omega, HS1, Lib.hid (by rw [HMAP.out]; exact HO1.out), HD2⟩
            case measure => simp [intOf]; omega
          · have hle2 : x.label.isEmpty = false := by simpa using hle
            rw [hle2] at el
            rw [hle2] at hhas
            simp only [Bool.not_false, Bool.and_true] at hhas
            cases hat : (atL (ls.take k) x.label).isSome with
            | true =>
              have e60 := check_again HA.out HX.out hle hat
              have E60 := Lib.hid e60
              rw [hat] at hhas
              rw [hhas] at hrun
              clear e60 hat hle hle2 hhas
              generalize strB x.label = SL at *
              go_wp2
              go_ret2
              exact ⟨HS1.out.k, .inr ⟨by rw [E60.out]; decide, by rw [E60.out]; rfl⟩⟩
            | false =>
              rw [hat] at hhas
              rw [hhas] at hrun
              have hln : (ls.take k).length = k := by rw [List.length_take, HN.out]; omega
              have hmap : mapL (ls.take (k + 1)) = (mapL (ls.take k)).put (.string x.label) (.lit (.int .i64 k)) := by rw [take_succ_of HX.out, mapL_snoc, if_neg (by rw [hle2]; decide), hln]
              have HMAP := Lib.hid hmap
              have HD2 := Lib.hid (show Dist (ls.take (k + 1)) by rw [take_succ_of HX.out]; exact HD.out.snoc (fun _ => by simpa using hat))
              clear hmap hle hle2 hhas hat hln
              generalize strB x.label = SL at *
              go_wp2_with (at_mapUpdate; refine wpList_mapUpdate_own _ rfl _ _ _ 63 rfl 9 3 lawStr Tryd.underlying63 _ m q _ rfl HO1.out (by unfold maxLen; omega) _ _ _ rfl rfl HKY.out _ [] HPI.out ?_; intro w3 hown hgr; have HS4 := Lib.hid (HS1.out.own hgr HB.out HM.out); have HO4 := Lib.hid hown; clear hown hgr)
              go_roundw
              case rel => exact ⟨k + 1, q + 1, by omega, by go_num, by omega, HS4, Lib.hid (by rw [HMAP.out]; exact HO4.out), HD2⟩
              case measure => simp [intOf]; omega
        · have hltI : ¬ (k : Int) < n := by omega
          obtain rfl : n = k := by omega
          rw [List.take_of_length_le (by rw [HN.out]; omega)] at HO HD
          go_wp2
          go_loopw [53] (fun i wr => ∃ j : Nat, j ≤ n ∧ i = .int .i64 j ∧ Hid (S5 B w wr) ∧ Hid (OwnI wr m q (mapL ls)) ∧ Hid (∀ i x, i < j → ls[i]? = some x → okL ls i x = true)) (fun i _ => n - (intOf i).toNat)
          case atStart => exact ⟨0, by omega, rfl, S, HO, Lib.hid (by intro i x h; omega)⟩
          case round =>
            clear S HO
            obtain ⟨j, hj, rfl, S, HO, HP⟩ := hrel
            by_cases hjt : j < n
            · have hjtI : (j : Int) < n := by omega
              obtain ⟨b, off, x, rfl, hb, hx, c0, c1, c2, c3, c4⟩ := lines_at (HR.out.below S.out.k) hjt
              have hbs : b < wr.heap.size := by have := S.out.k.size; omega
              have HS1 := Lib.hid (S.out.alloc (.cells (lineC x) 51))
              have HO1 := Lib.hid (HO.out.alloc (.cells (lineC x) 51))
              have HXO := Lib.hid (HK.out x (List.mem_of_getElem? hx))
              obtain ⟨cv, hrun⟩ := own_ok HO1.out HXO.out.target
              obtain ⟨cv2, hrun2⟩ := own_ok HO1.out HXO.out.frm
              have h1 := mapL_has x.target ls
              have h2 := mapL_has x.frm ls
              have et := strB_empty x.target
              have ef := strB_empty x.frm
              have hokl : okL ls j x = ((x.target.isEmpty || Maps.has (mapL ls) (.string x.target)) && (x.frm.isEmpty || Maps.has (mapL ls) (.string x.frm))) := by
                have hlab : (x.label.isEmpty || atL ls x.label == some j) = true := by
                  by_cases hz : x.label = []
                  · simp [hz]
                  · simp [HD.out j x hx hz]
                rw [okL, hlab, h1, h2, Bool.true_and]
                cases x.target.isEmpty <;> cases x.frm.isEmpty <;> simp
              have HOK := Lib.hid hokl
              have HX := Lib.hid hx
              simp only [lineC] at HS1 HO1 hrun hrun2
              clear hx hokl h1 h2 S HO
              generalize Maps.has (mapL ls) (Lit.string x.target) = ht at *
              generalize Maps.has (mapL ls) (Lit.string x.frm) = hf at *
              generalize x.target.isEmpty = zt at *
              generalize x.frm.isEmpty = zf at *
              generalize strB x.target = ST at *
              generalize strB x.frm = SF at *
              have no : okL ls j x = false → checkE ls = 60 := fun h => check_sixty HA.out HX.out h
              have yes : okL ls j x = true → ∀ i y, i < j + 1 → ls[i]? = some y → okL ls i y = true := by
                intro h i y hi hy
                by_cases e : i = j
                · subst e; rw [HX.out] at hy; injection hy with hy; subst hy; exact h
                · exact HP.out i y (by omega) hy
              have NO := Lib.hid no
              have YES := Lib.hid yes
              clear no yes
              cases zt <;> cases zf <;> cases ht <;> cases hf
              all_goals
                go_wp2
                first
                  | (go_roundw
                     case rel => exact ⟨j + 1, by omega, by go_num, HS1, HO1, Lib.hid (YES.out (by rw [HOK.out]; rfl))⟩
                     case measure => simp [intOf]; omega)
                  | (go_ret2
                     have e60 := NO.out (by rw [HOK.out]; rfl)
                     exact ⟨HS1.out.k, .inr ⟨by rw [e60]; decide, by rw [e60]; rfl⟩⟩)
            · have hjtI : ¬ (j : Int) < n := by omega
              obtain rfl : n = j := by omega
              have e0 := check_zero HA.out (fun i x hx => HP.out i x (by have := (List.getElem?_eq_some_iff.1 hx).1; rw [HN.out] at this; exact this) hx)
              go_wp2
              go_ret2
              exact ⟨S.out.k, .inl ⟨e0, m, q, rfl, HO.out, HM.out, HD.out⟩⟩
end Go.Proofs.YtbefmlioampgcaaDoor
