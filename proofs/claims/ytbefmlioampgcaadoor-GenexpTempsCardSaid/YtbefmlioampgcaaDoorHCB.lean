/- The reference's look at lines: which are run, and where a label stands next, walked. -/
import Derived.Test.YtbefmlioampgcaaDoorHK9
namespace Go.Proofs.YtbefmlioampgcaaDoor
open Go.RowKit
set_option linter.unusedVariables false
set_option linter.unusedSimpArgs false

theorem runsB_eqR (x : LineL) : runsB x = (x.frm.isEmpty && (!x.target.isEmpty == (x.fn == 10)) && (x.target.isEmpty || x.arg == 0) && fnB x) := rfl
set_option maxRecDepth 100000 in
set_option maxHeartbeats 8000000 in
theorem rRunsL (x : LineL) (w : World) : Calls Tryd.prog 50 #[.agg (lineC x)] w (RetV (.bool (runsB x)) w) := by
  obtain ⟨F, hF⟩ : ∃ F : Int, (x.fn : Int) = F := ⟨_, rfl⟩
  obtain ⟨W0, hW0⟩ : ∃ W, w.alloc (.cells (lineC x) 51) = W := ⟨_, rfl⟩
  have K0 : Hid (Below w.heap.size w W0) := Lib.hid (by rw [← hW0]; exact (Below.refl _ _).alloc (Nat.le_refl _) _)
  have b0 : Blk W0 w.heap.size 51 (lineC x) := by rw [← hW0]; exact Blk.new _ _ _
  have HRB := Lib.hid (runsB_eqR x)
  have HFB : Hid (fnB x = (x.fn == 4 || x.fn == 8 || x.fn == 12 || x.fn == 1 || x.fn == 7 || x.fn == 13 || x.fn == 3 || x.fn == 10 || (x.fn == 15 && knownB x.arg))) := Lib.hid rfl
  simp only [lineC, hF] at hW0 b0 ⊢
  have c0 := b0.cell 0
  have c1 := b0.cell 1
  have c2 := b0.cell 2
  have c3 := b0.cell 3
  have c4 := b0.cell 4
  simp at c0 c1 c2 c3 c4
  have hlt := b0.lt
  have et := strB_empty x.target
  have ef := strB_empty x.frm
  generalize runsB x = ans at *
  generalize fnB x = fb at *
  generalize x.frm.isEmpty = zf at *
  generalize x.target.isEmpty = zt at *
  generalize strB x.label = s1 at *
  generalize strB x.target = s2 at *
  generalize strB x.frm = s3 at *
  generalize x.arg = arg at *
  generalize hfn : x.fn = fn at *
  have HF := Lib.hid hF
  clear b0 hfn hF
  go_enter Tryd.func50, Tryd.ntmps50
  cases zf with
  | false =>
    have e1 : ans = false := by rw [HRB.out]; simp
    subst e1
    go_wp2
    go_ret
    exact ⟨rfl, K0.out⟩
  | true =>
  by_cases h10 : F = 10
  · have hf : fn = 10 := by have := HF.out; omega
    subst h10 hf
    by_cases ha : arg = 0
    · subst ha
      cases zt with
      | true =>
        have e1 : ans = false := by rw [HRB.out]; simp
        subst e1
        go_wp2
        go_ret
        exact ⟨rfl, K0.out⟩
      | false =>
        have e1 : ans = true := by rw [HRB.out, HFB.out]; simp
        subst e1
        go_wp2
        go_ret
        exact ⟨rfl, K0.out⟩
    · have ha1 : (arg == 0) = false := by simpa using ha
      have ha2 : (arg != 0) = true := by simpa using ha
      have e1 : ans = false := by rw [HRB.out]; cases zt <;> simp [ha]
      subst e1
      cases zt
      all_goals
        go_wp2
        go_ret
        exact ⟨rfl, K0.out⟩
  have hf10 : (F == 10) = false := by simpa using h10
  have hn10 : (fn == 10) = false := by have := HF.out; simp; omega
  cases zt with
  | false =>
    have e1 : ans = false := by rw [HRB.out, hn10]; simp
    subst e1
    go_wp2
    go_ret
    exact ⟨rfl, K0.out⟩
  | true =>
  have HR2 : Hid (ans = fb) := Lib.hid (by rw [HRB.out, hn10]; simp)
  by_cases h4 : F = 4
  · have e1 : ans = true := by rw [HR2.out, HFB.out, show fn = 4 by have := HF.out; omega]; rfl
    subst h4 e1
    go_wp2
    go_ret
    exact ⟨rfl, K0.out⟩
  by_cases h8 : F = 8
  · have e1 : ans = true := by rw [HR2.out, HFB.out, show fn = 8 by have := HF.out; omega]; rfl
    subst h8 e1
    go_wp2
    go_ret
    exact ⟨rfl, K0.out⟩
  by_cases h12 : F = 12
  · have e1 : ans = true := by rw [HR2.out, HFB.out, show fn = 12 by have := HF.out; omega]; rfl
    subst h12 e1
    go_wp2
    go_ret
    exact ⟨rfl, K0.out⟩
  by_cases h1 : F = 1
  · have e1 : ans = true := by rw [HR2.out, HFB.out, show fn = 1 by have := HF.out; omega]; rfl
    subst h1 e1
    go_wp2
    go_ret
    exact ⟨rfl, K0.out⟩
  by_cases h7 : F = 7
  · have e1 : ans = true := by rw [HR2.out, HFB.out, show fn = 7 by have := HF.out; omega]; rfl
    subst h7 e1
    go_wp2
    go_ret
    exact ⟨rfl, K0.out⟩
  by_cases h13 : F = 13
  · have e1 : ans = true := by rw [HR2.out, HFB.out, show fn = 13 by have := HF.out; omega]; rfl
    subst h13 e1
    go_wp2
    go_ret
    exact ⟨rfl, K0.out⟩
  by_cases h3 : F = 3
  · have e1 : ans = true := by rw [HR2.out, HFB.out, show fn = 3 by have := HF.out; omega]; rfl
    subst h3 e1
    go_wp2
    go_ret
    exact ⟨rfl, K0.out⟩
  by_cases h15 : F = 15
  · have e1 : ans = knownB arg := by rw [HR2.out, HFB.out, show fn = 15 by have := HF.out; omega]; rfl
    subst h15
    have HE1 := Lib.hid e1
    clear e1
    by_cases o0 : arg = 0
    · subst o0
      have e1 : ans = true := by rw [HE1.out]; decide
      subst e1
      go_wp2
      go_ret
      exact ⟨rfl, K0.out⟩
    by_cases o5 : arg = 5
    · subst o5
      have e1 : ans = true := by rw [HE1.out]; decide
      subst e1
      go_wp2
      go_ret
      exact ⟨rfl, K0.out⟩
    by_cases o12 : arg = 12
    · subst o12
      have e1 : ans = true := by rw [HE1.out]; decide
      subst e1
      go_wp2
      go_ret
      exact ⟨rfl, K0.out⟩
    by_cases o83 : arg = 83
    · subst o83
      have e1 : ans = true := by rw [HE1.out]; decide
      subst e1
      go_wp2
      go_ret
      exact ⟨rfl, K0.out⟩
    by_cases o44 : arg = 44
    · subst o44
      have e1 : ans = true := by rw [HE1.out]; decide
      subst e1
      go_wp2
      go_ret
      exact ⟨rfl, K0.out⟩
    by_cases o31 : arg = 31
    · subst o31
      have e1 : ans = true := by rw [HE1.out]; decide
      subst e1
      go_wp2
      go_ret
      exact ⟨rfl, K0.out⟩
    by_cases o82 : arg = 82
    · subst o82
      have e1 : ans = true := by rw [HE1.out]; decide
      subst e1
      go_wp2
      go_ret
      exact ⟨rfl, K0.out⟩
    by_cases o4 : arg = 4
    · subst o4
      have e1 : ans = true := by rw [HE1.out]; decide
      subst e1
      go_wp2
      go_ret
      exact ⟨rfl, K0.out⟩
    by_cases o8 : arg = 8
    · subst o8
      have e1 : ans = true := by rw [HE1.out]; decide
      subst e1
      go_wp2
      go_ret
      exact ⟨rfl, K0.out⟩
    by_cases o70 : arg = 70
    · subst o70
      have e1 : ans = true := by rw [HE1.out]; decide
      subst e1
      go_wp2
      go_ret
      exact ⟨rfl, K0.out⟩
    by_cases o75 : arg = 75
    · subst o75
      have e1 : ans = true := by rw [HE1.out]; decide
      subst e1
      go_wp2
      go_ret
      exact ⟨rfl, K0.out⟩
    by_cases o51 : arg = 51
    · subst o51
      have e1 : ans = true := by rw [HE1.out]; decide
      subst e1
      go_wp2
      go_ret
      exact ⟨rfl, K0.out⟩
    by_cases o50 : arg = 50
    · subst o50
      have e1 : ans = true := by rw [HE1.out]; decide
      subst e1
      go_wp2
      go_ret
      exact ⟨rfl, K0.out⟩
    by_cases o65 : arg = 65
    · subst o65
      have e1 : ans = true := by rw [HE1.out]; decide
      subst e1
      go_wp2
      go_ret
      exact ⟨rfl, K0.out⟩
    by_cases o64 : arg = 64
    · subst o64
      have e1 : ans = true := by rw [HE1.out]; decide
      subst e1
      go_wp2
      go_ret
      exact ⟨rfl, K0.out⟩
    by_cases o9 : arg = 9
    · subst o9
      have e1 : ans = true := by rw [HE1.out]; decide
      subst e1
      go_wp2
      go_ret
      exact ⟨rfl, K0.out⟩
    by_cases o19 : arg = 19
    · subst o19
      have e1 : ans = true := by rw [HE1.out]; decide
      subst e1
      go_wp2
      go_ret
      exact ⟨rfl, K0.out⟩
    by_cases o41 : arg = 41
    · subst o41
      have e1 : ans = true := by rw [HE1.out]; decide
      subst e1
      go_wp2
      go_ret
      exact ⟨rfl, K0.out⟩
    by_cases o10 : arg = 10
    · subst o10
      have e1 : ans = true := by rw [HE1.out]; decide
      subst e1
      go_wp2
      go_ret
      exact ⟨rfl, K0.out⟩
    have e1 : ans = false := by rw [HE1.out]; simp [knownB, opR, binO, *]
    subst e1
    go_wp2
    go_ret
    exact ⟨rfl, K0.out⟩
  have e1 : ans = false := by
    have := HF.out
    rw [HR2.out, HFB.out]
    simp
    omega
  subst e1
  go_wp2
  go_ret
  exact ⟨rfl, K0.out⟩
/-- Where the first line from i on with a label stands. -/
def nextL (ls : List LineL) (i : Nat) (t : List UInt8) : Int := match atL (ls.drop i) t with | some j => ((i + j : Nat) : Int) | none => -1
theorem nextL_here {ls : List LineL} {i : Nat} {x : LineL} {t : List UInt8} (h : ls[i]? = some x) (he : x.label = t) : nextL ls i t = (i : Nat) := by
  have hd : ls.drop i = x :: ls.drop (i + 1) := by
    rw [List.drop_eq_getElem_cons (List.getElem?_eq_some_iff.1 h).1]
    congr 1
    exact (List.getElem?_eq_some_iff.1 h).2
  unfold nextL
  rw [hd]
  simp [atL, List.findIdx?_cons, he]
theorem nextL_on {ls : List LineL} {i : Nat} {x : LineL} {t : List UInt8} (h : ls[i]? = some x) (he : x.label ≠ t) : nextL ls i t = nextL ls (i + 1) t := by
  have hd : ls.drop i = x :: ls.drop (i + 1) := by
    rw [List.drop_eq_getElem_cons (List.getElem?_eq_some_iff.1 h).1]
    congr 1
    exact (List.getElem?_eq_some_iff.1 h).2
  unfold nextL
  rw [hd]
  have hb : (x.label == t) = false := by simpa using he
  simp only [atL, List.findIdx?_cons, hb]
  cases h2 : List.findIdx? (fun x => x.label == t) (ls.drop (i + 1)) with
  | none => rfl
  | some j => simp; omega
theorem nextL_none {ls : List LineL} {i : Nat} {t : List UInt8} (h : ls.length ≤ i) : nextL ls i t = -1 := by
  unfold nextL
  rw [List.drop_eq_nil_of_le h]
  rfl
set_option maxRecDepth 100000 in
set_option maxHeartbeats 4000000 in
theorem rAt (ls : List LineL) (A : Option Addr) (n c : Nat) (hn : n ≤ 1000000) (i : Nat) (t : List UInt8) (ST : ByteArray) (hst : ST = strB t) (w : World) (hr : Reads w w.heap.size 5 A n (linesL ls)) :
    Calls Tryd.prog 30 #[.slice A n c, .int .i64 i, .string ST] w (RetQ (.int .i64 (nextL ls i t)) w) := by
  have HR := Lib.hid hr
  have HN := Lib.hid (lines_len hr)
  have HT := Lib.hid hst
  clear hr hst
  go_enter Tryd.func30, Tryd.ntmps30
  go_wp2
  go_loopw [1] (fun a wr => ∃ k : Nat, a = .int .i64 k ∧ wr = w ∧ Hid (nextL ls k t = nextL ls i t)) (fun a _ => n - (intOf a).toNat)
  case atStart => exact ⟨i, rfl, rfl, Lib.hid rfl⟩
  case round =>
    obtain ⟨k, rfl, rfl, HQ⟩ := hrel
    by_cases hlt : k < n
    · have hltI : (k : Int) < n := by omega
      obtain ⟨b, off, x, rfl, hb, hx, c0, c1, c2, c3, c4⟩ := lines_at HR.out hlt
      have HX := Lib.hid hx
      clear hx
      by_cases he : x.label = t
      · have e1 : ((strB x.label).toList == ST.toList) = true := by rw [HT.out, he]; simp
        have h2 := (nextL_here HX.out he)
        have HQ2 : Hid (nextL ls i t = (k : Nat)) := Lib.hid (HQ.out.symm.trans h2)
        clear h2
        generalize strB x.label = SL at *
        go_wp2
        go_ret
        exact ⟨by rw [HQ2.out]; rfl, rfl⟩
      · have hne : ¬ strB x.label = ST := by
          rw [HT.out]; intro e; exact he (by have := congrArg (fun s : ByteArray => s.data.toList) e; simpa [strB] using this)
        have e1 : ((strB x.label).toList == ST.toList) = false := str_ne hne
        have HQ2 : Hid (nextL ls (k + 1) t = nextL ls i t) := Lib.hid ((nextL_on HX.out he).symm.trans HQ.out)
        generalize strB x.label = SL at *
        clear hne
        go_wp2
        go_roundw
        case rel => exact ⟨k + 1, by go_num, by first | trivial | rfl, HQ2⟩
        case measure => simp [intOf]; omega
    · have hltI : ¬ (k : Int) < n := by omega
      have h2 := nextL_none (ls := ls) (i := k) (t := t) (by rw [HN.out]; omega)
      have HQ2 : Hid (nextL ls i t = -1) := Lib.hid (HQ.out.symm.trans h2)
      clear h2
      go_wp2
      go_ret
      exact ⟨by rw [HQ2.out]; rfl, rfl⟩
end Go.Proofs.YtbefmlioampgcaaDoor
