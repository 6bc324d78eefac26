/- The reference's error of lines, walked. -/
import Derived.Test.YtbefmlioampgcaaDoorHCB
namespace Go.Proofs.YtbefmlioampgcaaDoor
open Go.RowKit
set_option linter.unusedVariables false
set_option linter.unusedSimpArgs false

/-- A line's labels are right, as the reference looks at them. -/
def okQ (ls : List LineL) (i : Nat) (x : LineL) : Bool := (x.label.isEmpty || nextL ls 0 x.label == (i : Int)) && (x.target.isEmpty || x.target == stopT || decide (0 ≤ nextL ls (i + 1) x.target))
theorem next_zero {ls : List LineL} {t : List UInt8} {i : Nat} : (nextL ls 0 t == (i : Int)) = (atL ls t == some i) := by
  unfold nextL
  rw [List.drop_zero]
  cases h : atL ls t with
  | none => simp
  | some j => rw [Bool.eq_iff_iff]; simp; omega
theorem atL_drop {ls : List LineL} {k : Nat} {t : List UInt8} {j : Nat} (h : atL ls t = some j) (hk : k ≤ j) : atL (ls.drop k) t = some (j - k) := by
  unfold atL at *
  obtain ⟨hj, hp, hn⟩ := List.findIdx?_eq_some_iff_getElem.1 h
  refine List.findIdx?_eq_some_iff_getElem.2 ⟨by simp; omega, ?_, fun i hi => ?_⟩
  · simp only [List.getElem_drop]
    have e : k + (j - k) = j := by omega
    simp only [e]
    exact hp
  · simp only [List.getElem_drop]
    exact hn (k + i) (by omega)
theorem okQ_bad {ls : List LineL} {i : Nat} {x : LineL} (h : okQ ls i x = false) : okR ls i x = false := by
  unfold okQ at h
  unfold okR
  rw [next_zero] at h
  cases h1 : (x.label.isEmpty || atL ls x.label == some i) with
  | false => rfl
  | true =>
    rw [h1] at h
    simp only [Bool.true_and] at h ⊢
    cases h2 : x.target.isEmpty with
    | true => rw [h2] at h; cases h
    | false =>
      cases h3 : (x.target == stopT) with
      | true => rw [h2, h3] at h; cases h
      | false =>
        rw [h2, h3] at h
        simp only [Bool.false_or, decide_eq_false_iff_not] at h ⊢
        cases h4 : atL ls x.target with
        | none => rfl
        | some j =>
          simp only [decide_eq_false_iff_not]
          intro hlt
          apply h
          unfold nextL
          rw [atL_drop h4 (by omega)]
          simp only
          omega
theorem okQ_all {ls : List LineL} (h : ∀ (k : Nat) (x : LineL), ls[k]? = some x → okQ ls k x = true) : ∀ (k : Nat) (x : LineL), ls[k]? = some x → okR ls k x = true := by
  have hd : Dist ls := by
    intro j x hx hn
    have h1 := h j x hx
    unfold okQ at h1
    rw [next_zero] at h1
    have hx2 : x.label.isEmpty = false := by simpa using hn
    rw [hx2] at h1
    simp at h1
    exact h1.1
  intro k x hx
  have h1 := h k x hx
  rw [okR_dist hd hx]
  unfold okQ at h1
  have h2 := (Bool.and_eq_true_iff.1 h1).2
  cases hz : x.target.isEmpty with
  | true => rfl
  | false =>
    cases hs : (x.target == stopT) with
    | true => rfl
    | false =>
      rw [hz, hs] at h2
      simp only [Bool.false_or, decide_eq_true_eq] at h2 ⊢
      have hne : x.target ≠ [] := by intro e; rw [e] at hz; cases hz
      unfold nextL at h2
      cases h3 : atL (ls.drop (k + 1)) x.target with
      | none => rw [h3] at h2; simp at h2
      | some j =>
        have hj := atL_lt h3
        obtain ⟨y, hy⟩ : ∃ y, (ls.drop (k + 1))[j]? = some y := ⟨_, List.getElem?_eq_getElem hj⟩
        have hyl : y.label = x.target := by
          unfold atL at h3
          obtain ⟨hj2, hp, -⟩ := List.findIdx?_eq_some_iff_getElem.1 h3
          rw [List.getElem?_eq_getElem hj2] at hy
          injection hy with hy
          rw [← hy]
          simpa using hp
        rw [List.getElem?_drop] at hy
        have h4 := hd (k + 1 + j) y hy (by rw [hyl]; exact hne)
        rw [hyl] at h4
        rw [h4]
        simp
        omega
def faultQ (ls : List LineL) (m : Nat) : Int := if 4096 < ls.length ∨ 65536 < m then 3 else faultE ls
set_option maxRecDepth 100000 in
set_option maxHeartbeats 4000000 in
theorem rFault (ls : List LineL) (hok : ∀ x ∈ ls, LOk x) (A : Option Addr) (n c : Nat) (hn : n ≤ 9223372036854775807) (Aw : Option Addr) (m cw : Nat) (hm : m ≤ 9223372036854775807) (w : World) (hr : Reads w w.heap.size 5 A n (linesL ls)) :
    Calls Tryd.prog 24 #[.slice A n c, .slice Aw m cw] w (RetV (.int .i64 (faultQ ls m)) w) := by
  have S : Hid (Below w.heap.size w w) := Lib.hid (Below.refl _ _)
  have HR := Lib.hid hr
  have HK := Lib.hid hok
  have HN := Lib.hid (lines_len hr)
  have HQ : Hid (faultQ ls m = if 4096 < ls.length ∨ 65536 < m then 3 else faultE ls) := Lib.hid rfl
  generalize faultQ ls m = ans at *
  clear hr hok
  go_enter Tryd.func24, Tryd.ntmps24
  by_cases h1 : 4096 < n
  · have h1I : (4096 : Int) < n := by omega
    obtain rfl : ans = 3 := by rw [HQ.out, if_pos (.inl (by rw [HN.out]; exact h1))]
    go_wp2
    go_ret
    exact ⟨rfl, S.out⟩
  have h1I : ¬ (4096 : Int) < n := by omega
  by_cases h2 : 65536 < m
  · have h2I : (65536 : Int) < m := by omega
    obtain rfl : ans = 3 := by rw [HQ.out, if_pos (.inr h2)]
    go_wp2
    go_ret
    exact ⟨rfl, S.out⟩
  have h2I : ¬ (65536 : Int) < m := by omega
  have HA : Hid (ans = faultE ls) := Lib.hid (by rw [HQ.out, if_neg (by rw [HN.out]; omega)])
  clear HQ
  go_wp2
  go_loopw [5] (fun i wr => ∃ k : Nat, k ≤ n ∧ i = .int .i64 k ∧ Hid (Below w.heap.size w wr) ∧ Hid ((ls.take k).all runsB = true)) (fun i _ => n - (intOf i).toNat)
  case atStart => exact ⟨0, by omega, rfl, S, Lib.hid (by simp)⟩
  case round =>
    clear S
    obtain ⟨k, hk, rfl, S, HV⟩ := hrel
    by_cases hlt : k < n
    · have hltI : (k : Int) < n := by omega
      obtain ⟨b, off, x, rfl, hb, hx, c0, c1, c2, c3, c4⟩ := lines_at (HR.out.below S.out) hlt
      have hbs : b < wr.heap.size := by have := S.out.size; omega
      have HC := Lib.hid (rRunsL x wr)
      have HX := Lib.hid hx
      have HTK : Hid (runsB x = true → (ls.take (k + 1)).all runsB = true) := Lib.hid fun h => runs_take_succ HX.out HV.out h
      have HF2 : Hid (runsB x = false → faultE ls = 2) := Lib.hid fun h => fault_two HX.out h
      have hws := S.out.size
      simp only [lineC] at HC
      clear hx
      generalize hrb : runsB x = rb at *
      have HRB := Lib.hid hrb
      clear hrb
      cases rb
      · go_wp2_with first
          | (go_at_call 50; (with_reducible refine HC.out.mono ?_); rintro e w1 ⟨rfl, hb1⟩)
        go_ret
        exact ⟨by rw [HA.out, HF2.out (by first | rfl | trivial)]; rfl, S.out.trans (hb1.mono hws)⟩
      · go_wp2_with first
          | (go_at_call 50; (with_reducible refine HC.out.mono ?_); rintro e w1 ⟨rfl, hb1⟩)
        go_roundw
        case rel => exact ⟨k + 1, by omega, by go_num, Lib.hid (S.out.trans (hb1.mono hws)), Lib.hid (HTK.out (by first | rfl | trivial))⟩
        case measure => simp [intOf]; omega
    · have hltI : ¬ (k : Int) < n := by omega
      obtain rfl : n = k := by omega
      rw [List.take_of_length_le (by rw [HN.out]; omega)] at HV
      go_wp2
      go_loopw [6] (fun i wr => ∃ j : Nat, j ≤ n ∧ i = .int .i64 j ∧ Hid (Below w.heap.size w wr) ∧ Hid (∀ i x, i < j → ls[i]? = some x → okQ ls i x = true)) (fun i _ => n - (intOf i).toNat)
      case atStart => exact ⟨0, by omega, rfl, S, Lib.hid (by intro i x h; omega)⟩
      case round =>
        clear S
        obtain ⟨j, hj, rfl, S, HP⟩ := hrel
        by_cases hjt : j < n
        · have hjtI : (j : Int) < n := by omega
          obtain ⟨b, off, x, rfl, hb, hx, c0, c1, c2, c3, c4⟩ := lines_at (HR.out.below S.out) hjt
          have hbs : b < wr.heap.size := by have := S.out.size; omega
          obtain ⟨W1, hW1⟩ : ∃ W, wr.alloc (.cells (lineC x) 51) = W := ⟨_, rfl⟩
          have b0 : Blk W1 wr.heap.size 51 (lineC x) := by rw [← hW1]; exact Blk.new wr _ _
          have HS1 : Hid (Below w.heap.size w W1) := Lib.hid (by rw [← hW1]; exact S.out.alloc (S.out.size) _)
          have HR1 := (HR.out.below HS1.out).more HS1.out.size
          have HA0 : Hid (Calls Tryd.prog 30 #[.slice (some ⟨b, off, none⟩) n c, .int .i64 0, .string (strB x.label)] W1 (RetQ (.int .i64 (nextL ls 0 x.label)) W1)) := Lib.hid (rAt ls _ n c (by omega) 0 x.label _ rfl W1 HR1)
          have HA1 : Hid (Calls Tryd.prog 30 #[.slice (some ⟨b, off, none⟩) n c, .int .i64 ((j : Int) + 1), .string (strB x.target)] W1 (RetQ (.int .i64 (nextL ls (j + 1) x.target)) W1)) := Lib.hid (by
            have := rAt ls (some ⟨b, off, none⟩) n c (by omega) (j + 1) x.target _ rfl W1 HR1
            rwa [show (((j + 1 : Nat)) : Int) = (j : Int) + 1 by omega] at this)
          simp only [lineC] at b0 hW1
          have e0 := b0.cell 0
          have e1 := b0.cell 1
          have e2 := b0.cell 2
          have e3 := b0.cell 3
          have e4 := b0.cell 4
          simp at e0 e1 e2 e3 e4
          have hwl := b0.lt
          have HX := Lib.hid hx
          have HOK : Hid (okQ ls j x = ((x.label.isEmpty || nextL ls 0 x.label == (j : Int)) && (x.target.isEmpty || x.target == stopT || decide (0 ≤ nextL ls (j + 1) x.target)))) := Lib.hid rfl
          have HSX : Hid (okQ ls j x = false → faultE ls = 60) := Lib.hid fun h => fault_sixty HV.out HX.out (okQ_bad h)
          have YES : Hid (okQ ls j x = true → ∀ i y, i < j + 1 → ls[i]? = some y → okQ ls i y = true) := Lib.hid (by
            intro h i y hi hy
            by_cases e : i = j
            · subst e; rw [HX.out] at hy; injection hy with hy; subst hy; exact h
            · exact HP.out i y (by omega) hy)
          clear b0 hx S
          have el := strB_empty x.label
          have et := strB_empty x.target
          obtain ⟨zs, hzs⟩ : ∃ b, (x.target == stopT) = b := ⟨_, rfl⟩
          have es : ((strB x.target).toList == [115, 116, 111, 112]) = zs := by rw [ByteArray.toList_eq]; exact hzs
          have HZS := Lib.hid hzs
          generalize okQ ls j x = ok at *
          generalize hzl : x.label.isEmpty = zl at *
          generalize hzt : x.target.isEmpty = zt at *
          generalize nextL ls 0 x.label = p0 at *
          generalize nextL ls (j + 1) x.target = p1 at *
          generalize strB x.label = SL at *
          generalize strB x.target = ST at *
          generalize strB x.frm = SF at *
          clear hzs hzt hzl
          have q1 : (p0 == (j : Int)) = decide (p0 = (j : Int)) := by rw [Bool.eq_iff_iff]; simp
          by_cases h0 : p0 = (j : Int) <;> by_cases hp1 : p1 < 0 <;> cases zl <;> cases zt <;> cases zs
          all_goals
            go_wp2_with first
              | (go_at_call 30; (with_reducible refine HA0.out.mono ?_); rintro e w1 ⟨rfl, rfl⟩)
              | (go_at_call 30; (with_reducible refine HA1.out.mono ?_); rintro e w1 ⟨rfl, rfl⟩)
            first
              | (go_roundw
                 case rel =>
                   refine ⟨j + 1, by omega, by go_num, HS1, Lib.hid (YES.out ?_)⟩
                   rw [HOK.out, HZS.out]
                   simp [*]
                 case measure => simp [intOf]; omega)
              | (have hf : ok = false := by
                   rw [HOK.out, HZS.out]
                   simp [*]
                 go_ret
                 exact ⟨by rw [HA.out, HSX.out hf]; rfl, HS1.out⟩)
        · have hjtI : ¬ (j : Int) < n := by omega
          obtain rfl : n = j := by omega
          have e0 := fault_zero HV.out (okQ_all (fun i x hx => HP.out i x (by have := (List.getElem?_eq_some_iff.1 hx).1; rw [HN.out] at this; exact this) hx))
          go_wp2
          go_ret
          exact ⟨by rw [HA.out, e0]; rfl, S.out⟩
end Go.Proofs.YtbefmlioampgcaaDoor
