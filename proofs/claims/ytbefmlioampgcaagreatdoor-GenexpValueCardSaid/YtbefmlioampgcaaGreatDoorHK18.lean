/- Texts that belong together, joined: what each one holds is told ahead of it. -/
import Derived.Test.YtbefmlioampgcaaGreatDoorHK9
set_option linter.unusedVariables false
set_option linter.unusedSimpArgs false
/- check of lines that are to be run, walked in the program. -/
namespace Go.Proofs.YtbefmlioampgcaaGreatDoor
open Go.RowKit Go.Maps Go.WideMaps

theorem runsB_eq (x : LineL) : runsB x = (x.frm.isEmpty && (!x.target.isEmpty == (x.fn == 10)) && (x.target.isEmpty || x.arg == 0) && fnB x) := rfl
set_option maxRecDepth 100000 in
theorem own_ok2 {w : World} {b n : Nat} {D : DataW Unit} (h : OwnI w b n D) {l : List UInt8} (hl : l.length ≤ 281474976710656) :
    ∃ c, (Instr.lookup 74 (.map (some b)) (.string (strB l)) true).run Tryz.prog w = .ok (.tuple #[.int .i64 c, .bool (Maps.has D (.string l))]) w ∧ D.atKey (.string l) (.lit (.int .i64 0)) = .lit (.int .i64 c) := by
  obtain ⟨v, ps, hrun, hv⟩ := h.look_ok lawStr Tryz.underlying74 (zero_int w) (plainElem_int Tryz.underlying3 (by decide)) (str_key hl)
  obtain ⟨c, rfl, he, -⟩ := plainElem_int_inv Tryz.underlying3 hv
  injection he with he
  exact ⟨c, hrun, he⟩
theorem below_own {B : Nat} {w0 w w1 : World} {b : Nat} (h : Below B w0 w) (hg : w.grownBy w1 (some b)) (hb : B ≤ b) (hB : B ≤ w.heap.size) : Below B w0 w1 := h.grown hg hB (fun k e => by injection e; omega)
/-- What check leaves. -/
def RetG (ls : List LineL) (w : World) (e : Ending) (w' : World) : Prop :=
  Below w.heap.size w w' ∧ ((faultE ls = 0 ∧ ∃ b n, e = .returned (.tuple #[.map (some b), .int .i64 0]) ∧ OwnI w' b n (mapG ls) ∧ w.heap.size ≤ b ∧ Dist ls) ∨
    (faultE ls ≠ 0 ∧ e = .returned (.tuple #[.map none, .int .i64 (faultE ls)])))
set_option maxRecDepth 100000 in
set_option maxHeartbeats 4000000 in
theorem wCheck (ls : List LineL) (hok : ∀ x ∈ ls, LOk x) (A : Option Addr) (n c : Nat) (hn : n ≤ 1000000) (w : World) (hr : Reads w w.heap.size 5 A n (linesL ls)) :
    Calls Tryz.prog 23 #[.slice A n c] w (RetG ls w) := by
  have S : Hid (Below w.heap.size w w) := Lib.hid (Below.refl _ _)
  have HR := Lib.hid hr
  have HK := Lib.hid hok
  have HN := Lib.hid (lines_len hr)
  clear hr hok
  go_enter Tryz.func23, Tryz.ntmps23
  obtain ⟨m, hm⟩ : ∃ m, w.heap.size = m := ⟨_, rfl⟩
  have hO : OwnI (w.alloc (.map #[] 0)) w.heap.size 0 (mapG []) := World.ownsMap_made _ _ _ _
  have HO := Lib.hid hO
  have HS : Hid (Below w.heap.size w (w.alloc (.map #[] 0))) := Lib.hid (S.out.alloc (Nat.le_refl _) (.map #[] 0))
  clear S hO
  rw [hm] at HO
  have HM := Lib.hid hm
  have hmm := @run_makeMap Tryz.prog
  go_wp2
  clear hm
  go_loopw [5, 17] (fun a i wr => ∃ k q : Nat, ∃ ag : Bool, k ≤ n ∧ a = .bool ag ∧ i = .int .i64 k ∧ q ≤ k ∧ Hid (Below w.heap.size w wr) ∧ Hid (OwnI wr m q (mapG (ls.take k))) ∧ Hid ((ls.take k).all runsB = true) ∧ Hid (if ag then ¬ Dist ls else Dist (ls.take k))) (fun _ i _ => n - (intOf i).toNat)
  case atStart => exact ⟨0, 0, false, by omega, rfl, rfl, by omega, HS, Lib.hid (by simpa using HO.out), Lib.hid (by simp), Lib.hid (by simpa using Dist.nil)⟩
  case round =>
    clear HS HO
    obtain ⟨k, q, ag, hk, rfl, rfl, hq, S, HO, HV, HD⟩ := hrel
    by_cases hlt : k < n
    · have hltI : (k : Int) < n := by omega
      obtain ⟨b, off, x, rfl, hb, hx, c0, c1, c2, c3, c4⟩ := lines_at (HR.out.below S.out) hlt
      have hbs : b < wr.heap.size := by have := S.out.size; omega
      have hmw : m ≤ wr.heap.size := by have := S.out.size; have := HM.out; omega
      obtain ⟨W1, hW1⟩ : ∃ W, wr.alloc (.cells (lineC x) 62) = W := ⟨_, rfl⟩
      have b0 : Blk W1 wr.heap.size 62 (lineC x) := by rw [← hW1]; exact Blk.new wr _ _
      have HS1 : Hid (Below w.heap.size w W1) := Lib.hid (by rw [← hW1]; exact S.out.alloc (S.out.size) _)
      have HO1 : Hid (OwnI W1 m q (mapG (ls.take k))) := Lib.hid (by rw [← hW1]; exact HO.out.alloc _)
      have HXO := Lib.hid (HK.out x (List.mem_of_getElem? hx))
      have HC := Lib.hid (wRuns x W1)
      have hmw1 : m ≤ W1.heap.size ∧ wr.heap.size < W1.heap.size := ⟨by have := b0.lt; omega, b0.lt⟩
      simp only [lineC] at b0 hW1 HC
      have e0 := b0.cell 0
      have e1 := b0.cell 1
      have e2 := b0.cell 2
      have e3 := b0.cell 3
      have e4 := b0.cell 4
      simp at e0 e1 e2 e3 e4
      clear b0
      have HX := Lib.hid hx
      have HRB := Lib.hid (runsB_eq x)
      clear hx S HO
      have el := strB_empty x.label
      have et := strB_empty x.target
      have ef := strB_empty x.frm
      obtain ⟨f10, hf10⟩ : ∃ b, ((x.fn : Int) == 10) = b := ⟨_, rfl⟩
      obtain ⟨a0, ha0⟩ : ∃ b, (x.arg == (0 : Int)) = b := ⟨_, rfl⟩
      have H10 : Hid ((x.fn == 10) = f10) := Lib.hid (by rw [← hf10, Bool.eq_iff_iff]; simp; omega)
      have ha1 : (x.arg != (0 : Int)) = !a0 := by rw [← ha0]; rfl
      have HA0 := Lib.hid ha0
      have HLE : Hid (x.label.isEmpty = true ↔ x.label = []) := Lib.hid List.isEmpty_iff
      generalize hzf : x.frm.isEmpty = zf at *
      generalize hzt : x.target.isEmpty = zt at *
      generalize hzl : x.label.isEmpty = zl at *
      generalize hfb : fnB x = fb at *
      have HT2 : Hid (runsB x = false → faultE ls = 2) := Lib.hid fun h => fault_two HX.out h
      have HLS : x.label.length ≤ 281474976710656 := HXO.out.label
      obtain ⟨hs, hhs⟩ : ∃ b, (atL (ls.take k) x.label).isSome = b := ⟨_, rfl⟩
      have HHS := Lib.hid hhs
      have HKY := Lib.hid (str_key HLS)
      have HPI : Hid (plainElem (H := Unit) Tryz.prog 3 (.int .i64 (k : Int)) = some (.lit (.int .i64 k), [])) := Lib.hid (plainElem_int Tryz.underlying3 (WalkArith.wf_i64 (by omega)))
      have hln : (ls.take k).length = k := by rw [List.length_take, HN.out]; omega
      have HMAP : Hid (mapG (ls.take (k + 1)) = (mapG (ls.take k)).put (.string x.label) (.lit (.int .i64 k))) := Lib.hid (by rw [take_succ_of HX.out, mapG_snoc, hln])
      have HDN : Hid (∀ ag' : Bool, ag' = (ag || (hs && !zl)) → (if ag' then ¬ Dist ls else Dist (ls.take (k + 1)))) := Lib.hid (by
        intro ag' he
        subst he
        cases hag : ag with
        | true => have := HD.out; rw [hag] at this; simpa using this
        | false =>
          have h1 := HD.out
          rw [hag] at h1
          simp at h1
          cases hs with
          | true =>
            cases zl with
            | true => simp; rw [take_succ_of HX.out]; exact h1.snoc (fun h => absurd (HLE.out.1 rfl) h)
            | false => simp; exact dup_not HX.out (fun h => by have := HLE.out.2 h; cases this) HHS.out
          | false => simp; rw [take_succ_of HX.out]; exact h1.snoc (fun _ => by simpa using HHS.out))
      have HLK : Hid (∀ w1 : World, Below W1.heap.size W1 w1 → ∃ c, (Instr.lookup 74 (.map (some m)) (.string (strB x.label)) true).run Tryz.prog w1 = .ok (.tuple #[.int .i64 c, .bool hs]) w1) := Lib.hid (fun w1 hb1 => by
        obtain ⟨cv, hrun, -⟩ := own_ok2 (own_call HO1.out hb1) HLS
        rw [mapG_has, HHS.out] at hrun
        exact ⟨cv, hrun⟩)
      clear hhs hln hzf hzt hzl hfb
      generalize strB x.label = SL at *
      generalize strB x.target = ST at *
      generalize strB x.frm = SF at *
      generalize x.arg = arg at *
      generalize (x.fn : Int) = fnI at *
      have HS1w := HS1.out.size
      cases zf <;> cases zt <;> cases f10 <;> cases a0 <;> cases fb
      all_goals
        first
          | (have hrb : runsB x = false := by rw [HRB.out, H10.out, HA0.out]; rfl
             have e2 := HT2.out hrb
             go_wp2_with first
               | (go_at_call 44; (with_reducible refine HC.out.mono ?_); rintro e w1 ⟨rfl, hb1⟩)
             go_ret2
             first
               | exact ⟨HS1.out, .inr ⟨by rw [e2]; decide, by rw [e2]; rfl⟩⟩
               | exact ⟨HS1.out.trans (hb1.mono HS1w), .inr ⟨by rw [e2]; decide, by rw [e2]; rfl⟩⟩)
          | (have hrb : runsB x = true := by rw [HRB.out, H10.out, HA0.out]; rfl
             have HV2 := Lib.hid (runs_take_succ HX.out HV.out hrb)
             clear hrb HT2 HRB
             cases hs <;> cases zl <;> cases ag
             all_goals
               go_wp2_with first
                 | (go_at_call 44; (with_reducible refine HC.out.mono ?_); rintro e w1 ⟨rfl, hb1⟩
                    obtain ⟨cv, hrun⟩ := HLK.out w1 hb1
                    have HO2 := Lib.hid (own_call HO1.out hb1)
                    have HS2 := Lib.hid (HS1.out.trans (hb1.mono HS1w))
                    have hmw2 : m ≤ w1.heap.size := Nat.le_trans hmw1.1 hb1.size
                    have q0 := (bcell hb1).1 wr.heap.size 0 hmw1.2
                    rw [e0] at q0
                    clear hb1)
                 | (at_mapUpdate; refine wpList_mapUpdate_own _ rfl _ _ _ 74 rfl 9 3 lawStr Tryz.underlying74 _ m q _ rfl HO2.out (by unfold maxLen; omega) _ _ _ rfl rfl HKY.out _ [] HPI.out ?_; intro w3 hown hgr
                    have HS4 := Lib.hid (below_own HS2.out hgr (Nat.le_of_eq HM.out) HS2.out.size)
                    have HO4 := Lib.hid hown
                    clear hown hgr)
               go_roundw
               case rel => exact ⟨k + 1, q + 1, _, by omega, rfl, by go_num, by omega, HS4, Lib.hid (by rw [HMAP.out]; exact HO4.out), HV2, Lib.hid (HDN.out _ rfl)⟩
               case measure => simp [intOf]; omega)
    · have hltI : ¬ (k : Int) < n := by omega
      obtain rfl : n = k := by omega
      have hlen : ls.take n = ls := List.take_of_length_le (by rw [HN.out]; omega)
      rw [hlen] at HO HV HD
      clear hlen
      cases ag with
      | true =>
        have e60 := fault_dup HV.out (by simpa using HD.out)
        have E60 := Lib.hid e60
        clear e60
        go_wp2
        go_ret2
        exact ⟨S.out, .inr ⟨by rw [E60.out]; decide, by rw [E60.out]; rfl⟩⟩
      | false =>
        have HDD : Hid (Dist ls) := Lib.hid (by simpa using HD.out)
        clear HD
        go_wp2
        go_loopw [70] (fun i wr => ∃ j : Nat, j ≤ n ∧ i = .int .i64 j ∧ Hid (Below w.heap.size w wr) ∧ Hid (OwnI wr m q (mapG ls)) ∧ Hid (∀ i x, i < j → ls[i]? = some x → okR ls i x = true)) (fun i _ => n - (intOf i).toNat)
        case atStart => exact ⟨0, by omega, rfl, S, HO, Lib.hid (by intro i x h; omega)⟩
        case round =>
          clear S HO
          obtain ⟨j, hj, rfl, S, HO, HP⟩ := hrel
          by_cases hjt : j < n
          · have hjtI : (j : Int) < n := by omega
            obtain ⟨b, off, x, rfl, hb, hx, c0, c1, c2, c3, c4⟩ := lines_at (HR.out.below S.out) hjt
            have hbs : b < wr.heap.size := by have := S.out.size; omega
            obtain ⟨W1, hW1⟩ : ∃ W, wr.alloc (.cells (lineC x) 62) = W := ⟨_, rfl⟩
            have b0 : Blk W1 wr.heap.size 62 (lineC x) := by rw [← hW1]; exact Blk.new wr _ _
            have HS1 : Hid (Below w.heap.size w W1) := Lib.hid (by rw [← hW1]; exact S.out.alloc (S.out.size) _)
            have HO1 : Hid (OwnI W1 m q (mapG ls)) := Lib.hid (by rw [← hW1]; exact HO.out.alloc _)
            have HXO := Lib.hid (HK.out x (List.mem_of_getElem? hx))
            obtain ⟨cv, hrun, hat⟩ := own_ok2 HO1.out HXO.out.target
            simp only [lineC] at b0 hW1
            have e0 := b0.cell 0
            have e1 := b0.cell 1
            have e2 := b0.cell 2
            have e3 := b0.cell 3
            have e4 := b0.cell 4
            simp at e0 e1 e2 e3 e4
            have hwl := b0.lt
            have HX := Lib.hid hx
            have HOK := Lib.hid (okR_dist HDD.out hx)
            have HSX : Hid (okR ls j x = false → faultE ls = 60) := Lib.hid fun h => fault_sixty HV.out HX.out h
            have HCV : Hid (x.target.isEmpty = false → cv = ((atL ls x.target).getD 0 : Nat)) := Lib.hid fun h => by
              have h1 := mapG_at HDD.out (n := x.target) (fun e => by rw [e] at h; cases h)
              rw [hat] at h1
              injection h1 with h1
              injection h1
            rw [mapG_has] at hrun
            clear b0 hx S HO hat
            have YES : Hid (okR ls j x = true → ∀ i y, i < j + 1 → ls[i]? = some y → okR ls i y = true) := Lib.hid (by
              intro h i y hi hy
              by_cases e : i = j
              · subst e; rw [HX.out] at hy; injection hy with hy; subst hy; exact h
              · exact HP.out i y (by omega) hy)
            have et := strB_empty x.target
            obtain ⟨zs, hzs⟩ : ∃ b, (x.target == stopT) = b := ⟨_, rfl⟩
            have es : ((strB x.target).toList == [115, 116, 111, 112]) = zs := by rw [ByteArray.toList_eq]; exact hzs
            have HZS := Lib.hid hzs
            generalize hzt : x.target.isEmpty = zt at *
            generalize hh : (atL ls x.target).isSome = hs at *
            generalize strB x.label = SL at *
            generalize strB x.target = ST at *
            generalize strB x.frm = SF at *
            clear hzs hzt hh
            cases zt <;> cases zs <;> cases hs <;> by_cases hc : cv ≤ (j : Int)
            all_goals
              go_wp2
              first
                | (go_roundw
                   case rel =>
                     refine ⟨j + 1, by omega, by go_num, HS1, HO1, Lib.hid (YES.out ?_)⟩
                     rw [HOK.out, HZS.out]
                     first
                       | rfl
                       | (have h3 := HCV.out (by first | trivial | rfl)
                          simp
                          omega)
                   case measure => simp [intOf]; omega)
                | (have hf : okR ls j x = false := by
                     rw [HOK.out, HZS.out]
                     first
                       | rfl
                       | (have h3 := HCV.out (by first | trivial | rfl)
                          simp
                          omega)
                   have e60 := HSX.out hf
                   go_ret2
                   exact ⟨HS1.out, .inr ⟨by rw [e60]; decide, by rw [e60]; rfl⟩⟩)
          · have hjtI : ¬ (j : Int) < n := by omega
            obtain rfl : n = j := by omega
            have e0 := fault_zero HV.out (fun i x hx => HP.out i x (by have := (List.getElem?_eq_some_iff.1 hx).1; rw [HN.out] at this; exact this) hx)
            go_wp2
            go_ret2
            exact ⟨S.out, .inl ⟨e0, m, q, rfl, HO.out, Nat.le_of_eq HM.out, HDD.out⟩⟩
end Go.Proofs.YtbefmlioampgcaaGreatDoor

/- The reference's look at lines: which are run, and where a label stands next, walked. -/
namespace Go.Proofs.YtbefmlioampgcaaGreatDoor
open Go.RowKit
set_option linter.unusedVariables false
set_option linter.unusedSimpArgs false

/-- Where the first line from i on with a label stands. -/
def nextL (ls : List LineL) (i : Nat) (t : List UInt8) : Int := match atL (ls.drop i) t with | some j => ((i + j : Nat) : Int) | none => -1
end Go.Proofs.YtbefmlioampgcaaGreatDoor
