/- Texts that belong together, joined: what each one holds is told ahead of it. -/
import Derived.Test.YtbefmlioampgcaaDoorHK12
import Derived.Test.YtbefmlioampgcaaDoorHK18
import Derived.Test.YtbefmlioampgcaaDoorHK22
import Derived.Test.YtbefmlioampgcaaDoorHK10
set_option linter.unusedVariables false
set_option linter.unusedSimpArgs false
/- GenexpTemps: the plain part, own and later. -/
namespace Go.Proofs.YtbefmlioampgcaaDoor
open Go.RowKit
set_option linter.unusedVariables false
set_option linter.unusedSimpArgs false

/-- Each jump of a code goes to one line, that lies behind it. -/
theorem labs_get : ∀ {ls : List LineL} {s : List UInt8}, s ∈ labs ls → (labs ls).Nodup → ∃ (k : Nat) (y : LineL), ls[k]? = some y ∧ y.label = s ∧ ∀ (k' : Nat) (y' : LineL), ls[k']? = some y' → y'.label = s → k' = k
  | [], s, h, _ => by simp [labs] at h
  | x :: l, s, h, hn => by
    by_cases hx : x.label = s
    · refine ⟨0, x, rfl, hx, ?_⟩
      intro k' y' hy he
      cases k' with
      | zero => rfl
      | succ k' =>
        have hs : s ≠ [] := (mem_labs.1 h).1
        rw [labs_yes x (by rw [hx]; exact hs)] at hn
        have : x.label ∈ labs l := mem_labs.2 ⟨by rw [hx]; exact hs, y', List.mem_of_getElem? (by simpa using hy), by rw [he, hx]⟩
        exact absurd this (List.nodup_cons.1 hn).1
    · have hl : s ∈ labs l := by
        obtain ⟨h1, y, hy, h2⟩ := mem_labs.1 h
        rcases List.mem_cons.1 hy with rfl | hy
        · exact absurd h2 hx
        · exact mem_labs.2 ⟨h1, y, hy, h2⟩
      have hn2 : (labs l).Nodup := by
        by_cases hxe : x.label = []
        · rwa [labs_no x hxe] at hn
        · rw [labs_yes x hxe] at hn
          exact (List.nodup_cons.1 hn).2
      obtain ⟨k, y, h1, h2, h3⟩ := labs_get hl hn2
      refine ⟨k + 1, y, h1, h2, ?_⟩
      intro k' y' hy he
      cases k' with
      | zero => simp at hy; subst hy; exact absurd he hx
      | succ k' => rw [h3 k' y' (by simpa using hy) he]
theorem jumps_at : ∀ {ls : List LineL} {i : Nat} {x : LineL}, jumpsOk ls → ls[i]? = some x → x.target = [] ∨ x.target = stopT ∨ x.target ∈ labs (ls.drop (i + 1))
  | [], i, x, _, h => by simp at h
  | y :: l, 0, x, h, hx => by simp at hx; subst hx; exact h.1
  | y :: l, i + 1, x, h, hx => by simpa using jumps_at h.2 (by simpa using hx)
theorem later_of {ls : List LineL} {i : Nat} {x : LineL} (hj : jumpsOk ls) (hn : (labs ls).Nodup) (hx : ls[i]? = some x) (h1 : x.target ≠ []) (h2 : x.target ≠ stopT) :
    ∃ (k : Nat) (y : LineL), i + 1 ≤ k ∧ ls[k]? = some y ∧ y.label = x.target ∧ ∀ (k' : Nat) (y' : LineL), ls[k']? = some y' → y'.label = x.target → k' = k := by
  have h3 : x.target ∈ labs (ls.drop (i + 1)) := by
    rcases jumps_at hj hx with h | h | h
    · exact absurd h h1
    · exact absurd h h2
    · exact h
  have h4 : x.target ∈ labs ls := by
    obtain ⟨h5, y, h6, h7⟩ := mem_labs.1 h3
    exact mem_labs.2 ⟨h5, y, List.mem_of_mem_drop h6, h7⟩
  obtain ⟨k, y, h5, h6, h7⟩ := labs_get h4 hn
  refine ⟨k, y, ?_, h5, h6, h7⟩
  obtain ⟨-, z, hz, hz2⟩ := mem_labs.1 h3
  obtain ⟨q, hq⟩ := List.mem_iff_getElem?.1 hz
  rw [List.getElem?_drop] at hq
  have := h7 _ _ hq hz2
  omega
set_option maxRecDepth 100000 in
set_option maxHeartbeats 4000000 in
theorem lLater (ls : List LineL) (A : Option Addr) (n c : Nat) (hn : n ≤ 1000000) (i : Nat) (t : List UInt8) (hi : i ≤ 1000000) (q : Nat) (y : LineL) (hq : i ≤ q) (hy : ls[q]? = some y) (hyt : y.label = t) (hu : ∀ (k' : Nat) (y' : LineL), ls[k']? = some y' → y'.label = t → k' = q) (w : World) (hr : Reads w w.heap.size 5 A n (linesL ls)) :
    Calls Tryd.prog 16 #[.slice A n c, .int .i64 i, .string (strB t)] w (RetQ (.bool true) w) := by
  have HR := Lib.hid hr
  have HN := Lib.hid (lines_len hr)
  have hqn : q < n := by have := (List.getElem?_eq_some_iff.1 hy).1; have := HN.out; omega
  have HY := Lib.hid hy
  have HU := Lib.hid hu
  have HYT := Lib.hid hyt
  obtain ⟨ST, hst⟩ : ∃ S, strB t = S := ⟨_, rfl⟩
  have HT := Lib.hid hst
  simp only [hst]
  clear hr hy hu hyt hst
  go_enter Tryd.func16, Tryd.ntmps16
  go_wp2
  go_loopw [7, 8] (fun a b wr => ∃ k : Nat, k ≤ n ∧ b = .int .i64 k ∧ a = .int .i64 (if q < k then 1 else 0) ∧ wr = w) (fun _ b _ => n - (intOf b).toNat)
  case atStart => exact ⟨0, Nat.zero_le _, rfl, rfl, rfl⟩
  case round =>
    obtain ⟨k, hk, rfl, rfl, rfl⟩ := hrel
    by_cases hlt : k < n
    · have hltI : (k : Int) < n := by omega
      have hkN : ¬ n ≤ k := by omega
      obtain ⟨b, off, x, rfl, hb, hx, c0, c1, c2, c3, c4⟩ := lines_at HR.out hlt
      have HX := Lib.hid hx
      clear hx
      by_cases hkq : k = q
      · subst hkq
        have hxy : x = y := by have := HX.out; rw [HY.out] at this; exact (Option.some.inj this).symm
        have e1 : ((strB x.label).toList == ST.toList) = true := by rw [← HT.out, hxy, HYT.out]; simp
        have hq0 : ¬ k < k := by omega
        have hq1 : ¬ (k : Int) < i := by omega
        generalize strB x.label = SL at *
        clear hxy
        rw [if_neg hq0]
        go_wp2
        go_roundw
        case rel => exact ⟨k + 1, by omega, by go_num, by rw [if_pos (by omega)], by first | trivial | rfl⟩
        case measure => simp [intOf]; omega
      · have hne : ¬ strB x.label = ST := by
          rw [← HT.out]; intro e; exact hkq (HU.out k x HX.out (by have := congrArg (fun s : ByteArray => s.data.toList) e; simpa [strB] using this))
        have e1 : ((strB x.label).toList == ST.toList) = false := str_ne hne
        generalize strB x.label = SL at *
        clear hne
        obtain ⟨V, hV⟩ : ∃ V : Int, (if q < k then 1 else 0) = V := ⟨_, rfl⟩
        have HV := Lib.hid hV
        rw [hV]
        clear hV
        go_wp2
        go_roundw
        case rel => exact ⟨k + 1, by omega, by go_num, by rw [← HV.out]; congr 1; by_cases h : q < k <;> simp [h] <;> omega, by first | trivial | rfl⟩
        case measure => simp [intOf]; omega
    · have hltI : ¬ (k : Int) < n := by omega
      have hkN : n ≤ k := by omega
      rw [if_pos (show q < k by omega)]
      go_wp2
      go_ret
      exact ⟨rfl, rfl⟩
theorem own_eq (l d : List UInt8) : (((strB (l ++ 46 :: d)).extract 0 ((strB l).size + 1)).toList == (strB l ++ { data := #[46] }).toList) = true := by
  have hs : (strB l).size = l.length := by simp [strB, ByteArray.size]
  have e1 : ((strB (l ++ 46 :: d)).extract 0 ((strB l).size + 1)).data.toList = l ++ [46] := by
    rw [hs, ByteArray.data_extract]
    simp only [strB]
    rw [Array.toList_extract]
    simp [List.extract_eq_take_drop, List.take_append]
    exact List.take_of_length_le (by omega)
  have e2 : (strB l ++ { data := #[46] }).data.toList = l ++ [46] := by
    rw [ByteArray.data_append]
    simp [strB]
  rw [ByteArray.toList_eq, ByteArray.toList_eq, e1, e2]
  simp
set_option maxRecDepth 100000 in
set_option maxHeartbeats 4000000 in
theorem lOwn (l d : List UInt8) (hd : d ≠ []) (h2 : l.length ≤ 1000000) (w : World) :
    Calls Tryd.prog 15 #[.string (strB (l ++ 46 :: d)), .string (strB l)] w (RetQ (.bool true) w) := by
  have he := own_eq l d
  have h1 : (strB l).size + 1 < (strB (l ++ 46 :: d)).size := by
    have : 0 < d.length := List.length_pos_iff.2 hd
    simp [strB, ByteArray.size]
    omega
  have h4 : (strB l).size ≤ 1000000 := by
    simp [strB, ByteArray.size]
    omega
  generalize strB (l ++ 46 :: d) = S at *
  generalize strB l = L at *
  have h3 : (L.size : Int) + 1 < S.size := by omega
  have HE := Lib.hid he
  clear he
  go_enter Tryd.func15, Tryd.ntmps15
  go_wp2
  go_ret
  exact ⟨by rw [HE.out]; rfl, rfl⟩
end Go.Proofs.YtbefmlioampgcaaDoor

/- The code of a safe expression has no jump to stop. -/
namespace Go.Proofs.YtbefmlioampgcaaDoor
open Go.RowKit
set_option linter.unusedVariables false
set_option linter.unusedSimpArgs false

theorem fresh_stop (env : CEnv) (j : Nat) : freshL env j ≠ stopT := by
  intro h
  have h1 : (46 : UInt8) ∈ freshL env j := by unfold freshL; simp
  rw [h] at h1
  revert h1
  decide
theorem after_safe {env : CEnv} {k o tk : Nat} {v : Int} (hk : k ≠ 3) {x : LineL} (h : x ∈ afterL env k o tk v) : x.target = [] := by
  unfold afterL at h
  rw [if_neg hk] at h
  repeat' split at h
  all_goals
    first
      | exact absurd h List.not_mem_nil
      | (simp only [List.mem_cons, List.not_mem_nil, or_false] at h; rcases h with rfl | rfl | rfl <;> simp [lnF, lnO, lnJ])
      | (simp only [List.mem_cons, List.not_mem_nil, or_false] at h; rcases h with rfl | rfl <;> simp [lnF, lnO, lnJ])
      | (simp only [List.mem_cons, List.not_mem_nil, or_false] at h; subst h; simp [lnF, lnO, lnJ])
theorem code_stop (env : CEnv) (e : KE) : e.all (fun x => fieldsB x = true) → safeE e = true → ∀ (t : Int) (n : Nat), ∀ x ∈ (codeE env e t n).1, x.target ≠ stopT := by
  have hN : ([] : List UInt8) ≠ stopT := by decide
  induction e using KE.ind with
  | h e ih =>
    intro hall hsafe t n
    have hf := (KE.all_iff.1 hall).1
    have hpa := (KE.all_iff.1 hall).2
    have hse := safe_eq hf
    rw [hsafe] at hse
    have hse2 := Eq.symm hse
    rw [Bool.and_eq_true, List.all_eq_true] at hse2
    have hps := hse2.1
    have hsu := of_decide_eq_true hse2.2
    match hl : e.l with
    | [] =>
      rw [codeE_0 env hl]
      split <;> (intro x hx; simp at hx; subst hx; simp [lnF, hN])
    | [a] =>
      have ma : a ∈ e.l := by rw [hl]; simp
      rw [codeE_1 env hl]
      intro x hx
      rcases List.mem_append.1 hx with hx | hx
      · exact ih a ma (hpa a ma) (hps a ma) t n x hx
      · rw [after_safe (by omega) hx]
        exact hN
    | a :: b :: r =>
      have ma : a ∈ e.l := by rw [hl]; simp
      have mb : b ∈ e.l := by rw [hl]; simp
      have hia := fun t n => ih a ma (hpa a ma) (hps a ma) t n
      have hib := fun t n => ih b mb (hpa b mb) (hps b mb) t n
      have hO : ∀ x ∈ operL e.oper, x.target ≠ stopT := fun x hx => by rw [(oper_mem hx).2.1]; exact hN
      rw [codeE_2 env hl]
      by_cases h20 : e.oper = 20 ∨ e.oper = 21
      · rw [if_pos h20]
        by_cases h21 : e.oper = 21
        · simp only [if_pos h21]
          intro x hx
          simp only [List.mem_append, List.mem_cons, List.not_mem_nil, or_false] at hx
          rcases hx with hx | rfl | rfl | hx | rfl | rfl
          · exact hia _ _ x hx
          · simp [lnF, hN]
          · simp only [lnJ]; exact fresh_stop _ _
          · exact hib _ _ x hx
          · simp [lnF, hN]
          · simp [hN]
        · simp only [if_neg h21]
          intro x hx
          simp only [List.mem_append, List.mem_cons, List.not_mem_nil, or_false] at hx
          rcases hx with hx | rfl | hx | rfl
          · exact hia _ _ x hx
          · simp only [lnJ]; exact fresh_stop _ _
          · exact hib _ _ x hx
          · simp [hN]
      · rw [if_neg h20]
        by_cases h33 : regsE a = 3 ∧ regsE b = 3
        · rw [if_pos h33]
          simp only
          intro x hx
          simp only [List.mem_append, List.mem_cons, List.not_mem_nil, or_false] at hx
          rcases hx with hx | rfl | hx | rfl | hx
          · exact hib _ _ x hx
          · simp [lnF, hN]
          · exact hia _ _ x hx
          · simp [lnF, hN]
          · exact hO x hx
        · rw [if_neg h33]
          by_cases hlt : regsE a < regsE b
          · rw [if_pos hlt]
            simp only
            intro x hx
            simp only [List.mem_append, List.mem_cons, List.not_mem_nil, or_false] at hx
            rcases hx with hx | hx | rfl | hx
            · exact hib _ _ x hx
            · exact hia _ _ x hx
            · simp [lnO, lnF, hN]
            · exact hO x hx
          · rw [if_neg hlt]
            simp only
            intro x hx
            simp only [List.mem_append] at hx
            rcases hx with hx | hx | hx
            · exact hia _ _ x hx
            · exact hib _ _ x hx
            · exact hO x hx
end Go.Proofs.YtbefmlioampgcaaDoor

/- Run takes every line of an expression's code, and its labels are right. -/
namespace Go.Proofs.YtbefmlioampgcaaDoor
open Go.RowKit
set_option linter.unusedVariables false
set_option linter.unusedSimpArgs false

theorem runs_F {f : Nat} (a : Int) (h : f = 4 ∨ f = 12 ∨ f = 1 ∨ f = 7 ∨ f = 13 ∨ f = 3) : runsB (lnF f a) = true := by
  rcases h with rfl | rfl | rfl | rfl | rfl | rfl <;> simp [runsB, lnF]
theorem runs_J {s : List UInt8} (h : s ≠ []) : runsB (lnJ s) = true := by
  simp [runsB, lnJ, h]
theorem runs_O {q : Int} (h : knownB q = true) : runsB (lnO q) = true := by
  simp [runsB, lnO, lnF, h]
theorem known_all : ∀ q ∈ ([0, 5, 12, 83, 44, 31, 82, 4, 8, 70, 75, 51, 65, 64, 9, 19, 41, 10, 50] : List Int), knownB q = true := by decide +kernel
theorem runs_oper {o : Nat} (h1 : 1 ≤ o) (h2 : o ≤ 22) : ∀ x ∈ operL o, runsB x = true := by
  have h : ∀ o : Fin 23, 1 ≤ o.1 → (operL o.1).all runsB = true := by decide +kernel
  intro x hx
  exact List.all_eq_true.1 (h ⟨o, by omega⟩ h1) x hx
theorem runs_after (env : CEnv) (k o tk : Nat) (v : Int) : ∀ x ∈ afterL env k o tk v, runsB x = true := by
  intro x h
  have hk := fun q h => runs_O (known_all q h)
  have hs : stopT ≠ [] := by decide
  unfold afterL at h
  repeat' split at h
  all_goals
    first
      | exact absurd h List.not_mem_nil
      | (simp only [List.mem_cons, List.not_mem_nil, or_false] at h; rcases h with rfl | rfl | rfl | rfl | rfl | rfl | rfl <;> first | exact hk _ (by simp) | exact runs_J hs | exact runs_F _ (by simp))
      | (simp only [List.mem_cons, List.not_mem_nil, or_false] at h; rcases h with rfl | rfl | rfl <;> first | exact hk _ (by simp) | exact runs_F _ (by simp))
      | (simp only [List.mem_cons, List.not_mem_nil, or_false] at h; rcases h with rfl | rfl <;> first | exact hk _ (by simp) | exact runs_F _ (by simp))
      | (simp only [List.mem_cons, List.not_mem_nil, or_false] at h; subst h; first | exact hk _ (by simp) | exact runs_F _ (by simp))
theorem code_runs (env : CEnv) (e : KE) : e.all (fun x => fieldsB x = true) → ∀ (t : Int) (n : Nat), ∀ x ∈ (codeE env e t n).1, runsB x = true := by
  induction e using KE.ind with
  | h e ih =>
    intro hall t n
    have hf := (KE.all_iff.1 hall).1
    have hpa := (KE.all_iff.1 hall).2
    match hl : e.l with
    | [] =>
      rw [codeE_0 env hl]
      split <;> (intro x hx; simp at hx; subst hx; exact runs_F _ (by simp))
    | [a] =>
      have ma : a ∈ e.l := by rw [hl]; simp
      rw [codeE_1 env hl]
      intro x hx
      rcases List.mem_append.1 hx with hx | hx
      · exact ih a ma (hpa a ma) t n x hx
      · exact runs_after _ _ _ _ _ x hx
    | a :: b :: r =>
      have ma : a ∈ e.l := by rw [hl]; simp
      have mb : b ∈ e.l := by rw [hl]; simp
      have hia := fun t n => ih a ma (hpa a ma) t n
      have hib := fun t n => ih b mb (hpa b mb) t n
      have h5 := (fieldsB_len hf).2.2 (by have := (fieldsB_len hf).1; rw [hl] at this ⊢; simp at this ⊢; omega)
      have hO := runs_oper h5.2.1 h5.2.2
      have hA : ∀ s : List UInt8, runsB ⟨s, 8, 0, [], []⟩ = true ∧ runsB ⟨s, 12, 0, [], []⟩ = true := fun s => by simp [runsB]
      rw [codeE_2 env hl]
      by_cases h20 : e.oper = 20 ∨ e.oper = 21
      · rw [if_pos h20]
        by_cases h21 : e.oper = 21
        · simp only [if_pos h21]
          intro x hx
          simp only [List.mem_append, List.mem_cons, List.not_mem_nil, or_false] at hx
          rcases hx with hx | rfl | rfl | hx | rfl | rfl
          · exact hia _ _ x hx
          · exact runs_F _ (by simp)
          · exact runs_J (fresh_ne _ _)
          · exact hib _ _ x hx
          · exact runs_F _ (by simp)
          · exact (hA _).2
        · simp only [if_neg h21]
          intro x hx
          simp only [List.mem_append, List.mem_cons, List.not_mem_nil, or_false] at hx
          rcases hx with hx | rfl | hx | rfl
          · exact hia _ _ x hx
          · exact runs_J (fresh_ne _ _)
          · exact hib _ _ x hx
          · exact (hA _).1
      · rw [if_neg h20]
        by_cases h33 : regsE a = 3 ∧ regsE b = 3
        · rw [if_pos h33]
          simp only
          intro x hx
          simp only [List.mem_append, List.mem_cons, List.not_mem_nil, or_false] at hx
          rcases hx with hx | rfl | hx | rfl | hx
          · exact hib _ _ x hx
          · exact runs_F _ (by simp)
          · exact hia _ _ x hx
          · exact runs_F _ (by simp)
          · exact hO x hx
        · rw [if_neg h33]
          by_cases hlt : regsE a < regsE b
          · rw [if_pos hlt]
            simp only
            intro x hx
            simp only [List.mem_append, List.mem_cons, List.not_mem_nil, or_false] at hx
            rcases hx with hx | hx | rfl | hx
            · exact hib _ _ x hx
            · exact hia _ _ x hx
            · exact runs_O (known_all _ (by simp))
            · exact hO x hx
          · rw [if_neg hlt]
            simp only
            intro x hx
            simp only [List.mem_append] at hx
            rcases hx with hx | hx | hx
            · exact hia _ _ x hx
            · exact hib _ _ x hx
            · exact hO x hx
end Go.Proofs.YtbefmlioampgcaaDoor

/- The code of an expression has no fault that Run sees ahead. -/
namespace Go.Proofs.YtbefmlioampgcaaDoor
open Go.RowKit
set_option linter.unusedVariables false
set_option linter.unusedSimpArgs false

theorem atL_one {ls : List LineL} {k : Nat} {s : List UInt8} {y : LineL} (hy : ls[k]? = some y) (hs : y.label = s) (hu : ∀ (k' : Nat) (y' : LineL), ls[k']? = some y' → y'.label = s → k' = k) : atL ls s = some k := by
  unfold atL
  rw [List.findIdx?_eq_some_iff_getElem]
  obtain ⟨h1, h2⟩ := List.getElem?_eq_some_iff.1 hy
  refine ⟨h1, by rw [h2]; simp [hs], ?_⟩
  intro j hj he
  have hjl : j < ls.length := by omega
  have := hu j ls[j] (List.getElem?_eq_getElem hjl) (by simpa using he)
  omega
theorem code_fault (env : CEnv) (e : KE) (hall : e.all (fun x => fieldsB x = true)) (t : Int) (n : Nat) : faultE (codeE env e t n).1 = 0 := by
  have hl := (code_labs env e t n).2.1
  have hj := code_jumps env e t n
  have hr := code_runs env e hall t n
  generalize (codeE env e t n).1 = ls at *
  unfold faultE
  rw [if_pos (List.all_eq_true.2 hr), if_pos]
  rw [List.all_eq_true]
  rintro ⟨x, i⟩ hx
  have hxi : ls[i]? = some x := by
    have := List.mem_zipIdx_iff_getElem?.1 hx
    simpa using this
  simp only [okR, Bool.and_eq_true, Bool.or_eq_true]
  constructor
  · by_cases h : x.label = []
    · left; rw [h]; rfl
    · right
      have hm : x.label ∈ labs ls := mem_labs.2 ⟨h, x, List.mem_of_getElem? hxi, rfl⟩
      obtain ⟨k, y, h1, h2, h3⟩ := labs_get hm hl
      have hk := h3 i x hxi rfl
      subst hk
      rw [atL_one h1 h2 h3]
      simp
  · by_cases h1 : x.target = []
    · left; left; rw [h1]; rfl
    · by_cases h2 : x.target = stopT
      · left; right; rw [h2]; simp
      · right
        obtain ⟨k, y, hk1, hk2, hk3, hk4⟩ := later_of hj hl hxi h1 h2
        rw [atL_one hk2 hk3 hk4]
        simp
        omega
end Go.Proofs.YtbefmlioampgcaaDoor

/- Lines that never set the error flag and never leave the words. -/
namespace Go.Proofs.YtbefmlioampgcaaDoor
open Go.RowKit
set_option linter.unusedVariables false
set_option linter.unusedSimpArgs false

def StL (M : Nat) (r : RegL) (m : List Int) : Prop := r.Ok ∧ (∀ v ∈ m, is32 v) ∧ m.length = M
def quietL (M : Nat) (x : LineL) : Prop := is32 x.arg ∧ (x.fn = 4 ∨ x.fn = 12 ∨ (x.fn = 8 ∧ x.arg = 0) ∨ (x.fn = 15 ∧ x.arg ∈ ([0, 82, 4, 8, 70, 75, 51, 65, 64, 9, 50] : List Int)) ∨ ((x.fn = 7 ∨ x.fn = 13) ∧ 0 ≤ x.arg ∧ x.arg < M))
theorem quiet_step {M : Nat} {x : LineL} (hq : quietL M x) {r : RegL} {m : List Int} (hs : StL M r m) : ∃ r' m', stepO x r m = .go r' m' ∧ StL M r' m' ∧ r'.e = r.e := by
  obtain ⟨hx, hq⟩ := hq
  obtain ⟨h1, h2, h3⟩ := hs
  rcases hq with h | h | ⟨h, h0⟩ | ⟨h, ho⟩ | ⟨h, h0, hM⟩
  · exact ⟨plainO x r, m, by simp [stepO, accessB, h], ⟨plainO_ok hx h1, h2, h3⟩, by simp [plainO, h, RegL.push]⟩
  · exact ⟨plainO x r, m, by simp [stepO, accessB, h], ⟨plainO_ok hx h1, h2, h3⟩, by simp [plainO, h]⟩
  · refine ⟨plainO x r, m, by simp [stepO, accessB, h], ⟨plainO_ok hx h1, h2, h3⟩, ?_⟩
    have hw : wrap32 (r.a + 0) = r.a + 0 := by
      have := h1.1
      unfold is32 at this
      unfold wrap32
      omega
    simp only [plainO, h, h0, hw]
    simp
  · refine ⟨plainO x r, m, by simp [stepO, accessB, h], ⟨plainO_ok hx h1, h2, h3⟩, ?_⟩
    simp only [plainO, h]
    simp only [List.mem_cons, List.not_mem_nil, or_false] at ho
    rcases ho with ho | ho | ho | ho | ho | ho | ho | ho | ho | ho | ho <;> simp [ho, opR, binO, RegL.join]
  · cases hm : moveO x r m with
    | none =>
      exfalso
      unfold moveO wordK at hm
      have h3' : ¬ x.fn = 3 := by omega
      rw [if_neg h3'] at hm
      rw [if_neg (by omega)] at hm
      rcases h with h | h <;> simp [h] at hm
    | some q =>
      have hok := moveO_ok h1 h2 hm
      refine ⟨q.1, q.2, ?_, ⟨hok.1, hok.2.1, hok.2.2.trans h3⟩, ?_⟩
      · have ha : accessB x = true := by rcases h with h | h <;> simp [accessB, h]
        have h10 : ¬ x.fn = 10 := by omega
        unfold stepO
        rw [if_neg h10, ha, hm]
        simp
      · unfold moveO wordK at hm
        have h3' : ¬ x.fn = 3 := by omega
        rw [if_neg h3'] at hm
        rw [if_neg (by omega)] at hm
        rcases h with h | h <;> simp [h] at hm <;> subst hm <;> rfl
theorem quiet_run {M : Nat} : ∀ {l : List LineL}, (∀ x ∈ l, quietL M x) → ∀ (rest : List LineL) {r : RegL} {m : List Int}, StL M r m → ∃ r' m', runS (l ++ rest) none r m = runS rest none r' m' ∧ StL M r' m' ∧ r'.e = r.e
  | [], _, rest, r, m, hs => ⟨r, m, rfl, hs, rfl⟩
  | x :: l, hq, rest, r, m, hs => by
    obtain ⟨r1, m1, h1, h2, h3⟩ := quiet_step (hq x (by simp)) hs
    obtain ⟨r2, m2, h4, h5, h6⟩ := quiet_run (l := l) (fun y hy => hq y (by simp [hy])) rest h2
    refine ⟨r2, m2, ?_, h5, h6.trans h3⟩
    rw [List.cons_append, runS]
    simp [h1]
    exact h4
end Go.Proofs.YtbefmlioampgcaaDoor

/- The code of a safe expression runs through: the error flag stays as it was. -/
namespace Go.Proofs.YtbefmlioampgcaaDoor
open Go.RowKit
set_option linter.unusedVariables false
set_option linter.unusedSimpArgs false

/-- From these lines a run comes through to what stands behind them, the flag as before. -/
def Through (M : Nat) (l : List LineL) : Prop := ∀ (rest : List LineL) (r : RegL) (m : List Int), StL M r m → ∃ r' m', runS (l ++ rest) none r m = runS rest none r' m' ∧ StL M r' m' ∧ r'.e = r.e
theorem Through.quiet {M : Nat} {l : List LineL} (h : ∀ x ∈ l, quietL M x) : Through M l := fun rest _ _ hs => quiet_run h rest hs
theorem Through.append {M : Nat} {a b : List LineL} (ha : Through M a) (hb : Through M b) : Through M (a ++ b) := by
  intro rest r m hs
  obtain ⟨r1, m1, h1, h2, h3⟩ := ha (b ++ rest) r m hs
  obtain ⟨r2, m2, h4, h5, h6⟩ := hb rest r1 m1 h2
  exact ⟨r2, m2, by rw [List.append_assoc, h1, h4], h5, h6.trans h3⟩
theorem through_jump {M : Nat} {b : List LineL} {s : List UInt8} {z : LineL} (hb : Through M b) (hz : quietL M z) (hzs : z.label = s) (hst : s ≠ stopT) (hn : ∀ x ∈ b, x.label ≠ s) : Through M (lnJ s :: (b ++ [z])) := by
  intro rest r m hs
  rw [List.cons_append, runS]
  by_cases h : r.a = 0
  · have hj : stepO (lnJ s) r m = .jump s := by simp [stepO, lnJ, h, hst]
    simp only [Option.any_none, Bool.false_eq_true, if_false, hj]
    rw [runS_skip (b ++ [z] ++ rest) b.length s r m z (by simp) hzs ?_]
    · obtain ⟨r1, m1, h1, h2, h3⟩ := quiet_run (l := [z]) (by simpa using hz) rest hs
      refine ⟨r1, m1, ?_, h2, h3⟩
      rw [← h1]
      simp
    · intro k x hk hx
      refine hn x ?_
      rw [List.append_assoc, List.getElem?_append_left hk] at hx
      exact List.mem_of_getElem? hx
  · have hj : stepO (lnJ s) r m = .go r.pop m := by simp [stepO, lnJ, h]
    simp only [Option.any_none, Bool.false_eq_true, if_false, hj]
    obtain ⟨r1, m1, h1, h2, h3⟩ := (hb.append (Through.quiet (l := [z]) (by simpa using hz))) rest r.pop m ⟨⟨hs.1.2.1, hs.1.2.2, hs.1.2.2⟩, hs.2⟩
    exact ⟨r1, m1, h1, h2, h3⟩
theorem quiet_oper {M o : Nat} (h1 : 6 ≤ o) (h2 : o ≤ 22) (h20 : o ≠ 20) (h21 : o ≠ 21) : ∀ x ∈ operL o, quietL M x := by
  have h : ∀ o : Fin 23, 6 ≤ o.1 → o.1 ≠ 20 → o.1 ≠ 21 → ∀ x ∈ operL o.1, is32 x.arg ∧ (x.fn = 4 ∨ x.fn = 12 ∨ (x.fn = 15 ∧ x.arg ∈ ([0, 82, 4, 8, 70, 75, 51, 65, 64, 9, 50] : List Int))) := by
    unfold is32
    decide +kernel
  intro x hx
  obtain ⟨h3, h4⟩ := h ⟨o, by omega⟩ h1 h20 h21 x hx
  refine ⟨h3, ?_⟩
  rcases h4 with h4 | h4 | h4
  · exact .inl h4
  · exact .inr (.inl h4)
  · exact .inr (.inr (.inr (.inl h4)))
end Go.Proofs.YtbefmlioampgcaaDoor

/- The code of a safe expression runs through. -/
namespace Go.Proofs.YtbefmlioampgcaaDoor
open Go.RowKit
set_option linter.unusedVariables false
set_option linter.unusedSimpArgs false

def offOk (env : CEnv) (M : Nat) (x : KE) : Prop := is32 x.n ∧ (x.kind = 2 → 0 ≤ env.off x.v ∧ env.off x.v < M)
theorem code_through (env : CEnv) (M : Nat) (hM : M ≤ 1000000) (e : KE) : e.all (fun x => fieldsB x = true) → e.all (offOk env M) → safeE e = true → ∀ (t : Int) (n : Nat), 0 ≤ t → t + tempsE e ≤ M → Through M (codeE env e t n).1 := by
  have h0 : is32 0 := by unfold is32; omega
  have hF12 : quietL M (lnF 12 0) := ⟨h0, .inr (.inl rfl)⟩
  have hF4 : quietL M (lnF 4 0) := ⟨h0, .inl rfl⟩
  have hO : ∀ q ∈ ([0, 82, 4, 8, 70, 75, 51, 65, 64, 9, 50] : List Int), quietL M (lnO q) := fun q hq => ⟨by
    have h : ∀ q ∈ ([0, 82, 4, 8, 70, 75, 51, 65, 64, 9, 50] : List Int), -2147483648 ≤ q ∧ q ≤ 2147483647 := by decide
    exact h q hq, .inr (.inr (.inr (.inl ⟨rfl, hq⟩)))⟩
  induction e using KE.ind with
  | h e ih =>
    intro hall hoff hsafe t n ht0 htM
    have hf := (KE.all_iff.1 hall).1
    have hpa := (KE.all_iff.1 hall).2
    have hof := (KE.all_iff.1 hoff).1
    have hpo := (KE.all_iff.1 hoff).2
    have hk := fieldsB_kind hf
    have hse2 := Eq.symm (safe_eq hf)
    rw [hsafe, Bool.and_eq_true, List.all_eq_true] at hse2
    have hps := hse2.1
    have hsu := of_decide_eq_true hse2.2
    match hl : e.l with
    | [] =>
      rw [hl] at hk
      simp at hk
      rw [codeE_0 env hl]
      refine Through.quiet ?_
      intro x hx
      split at hx
      · simp at hx; subst hx; exact ⟨hof.1, .inl rfl⟩
      · simp at hx; subst hx
        have := hof.2 (by omega)
        exact ⟨by simp only [lnF]; unfold is32; omega, .inr (.inr (.inr (.inr ⟨.inl rfl, this⟩)))⟩
    | [a] =>
      have ma : a ∈ e.l := by rw [hl]; simp
      rw [hl] at hk
      simp at hk
      rw [codeE_1 env hl]
      have h1 := fieldsB_1 hf (by rw [hl]; rfl)
      refine (ih a ma (hpa a ma) (hpo a ma) (hps a ma) t n ht0 (by rw [(regsE_1 hl).2.1] at htM; exact htM)).append (Through.quiet ?_)
      intro x hx
      unfold afterL at hx
      rw [if_neg (by omega), if_neg (by omega)] at hx
      split at hx
      · simp at hx; rcases hx with rfl | rfl | rfl
        · exact hF4
        · exact hO 0 (by simp)
        · exact hO 4 (by simp)
      · split at hx
        · simp at hx; subst hx; exact hO 50 (by simp)
        · split at hx
          · simp at hx; subst hx; exact hF12
          · rw [if_neg (by omega), if_neg (by omega)] at hx
            cases hx
    | a :: b :: r =>
      have ma : a ∈ e.l := by rw [hl]; simp
      have mb : b ∈ e.l := by rw [hl]; simp
      have h5 := (fieldsB_len hf).2.2 (by have := (fieldsB_len hf).1; rw [hl] at this ⊢; simp at this ⊢; omega)
      have htt := (regsE_2 hl).2.1
      have hia := fun t n => ih a ma (hpa a ma) (hpo a ma) (hps a ma) t n
      have hib := fun t n => ih b mb (hpa b mb) (hpo b mb) (hps b mb) t n
      have hle : tempsE a ≤ tempsE e ∧ tempsE b ≤ tempsE e := by rw [htt]; split <;> omega
      rw [codeE_2 env hl]
      by_cases h20 : e.oper = 20 ∨ e.oper = 21
      · rw [if_pos h20]
        have hlab : ∀ (q : Nat), ∀ x ∈ (codeE env b t (q + 1)).1, x.label ≠ freshL env (q + 1) := by
          intro q x hx he
          have hm : x.label ∈ labs (codeE env b t (q + 1)).1 := mem_labs.2 ⟨by rw [he]; exact fresh_ne _ _, x, hx, rfl⟩
          obtain ⟨j, h1, h2, h3⟩ := (code_labs env b t (q + 1)).2.2 _ hm
          rw [he] at h3
          have := fresh_inj h3
          omega
        by_cases h21 : e.oper = 21
        · simp only [if_pos h21]
          refine (hia t n ht0 (by omega)).append ((Through.quiet (by simpa using hF12)).append ?_)
          have hthr := through_jump (s := freshL env ((codeE env a t n).2 + 1)) (z := ⟨freshL env ((codeE env a t n).2 + 1), 12, 0, [], []⟩) (((hib t ((codeE env a t n).2 + 1)) ht0 (by omega)).append (Through.quiet (l := [lnF 12 0]) (by simpa using hF12)))
            ⟨h0, .inr (.inl rfl)⟩ rfl (fresh_stop _ _) (by
              intro x hx
              rcases List.mem_append.1 hx with hx | hx
              · exact hlab _ x hx
              · simp at hx
                subst hx
                simp only [lnF]
                exact fun h => fresh_ne _ _ h.symm)
          simpa using hthr
        · simp only [if_neg h21]
          refine (hia t n ht0 (by omega)).append ?_
          have hthr := through_jump (s := freshL env ((codeE env a t n).2 + 1)) (z := ⟨freshL env ((codeE env a t n).2 + 1), 8, 0, [], []⟩) ((hib t ((codeE env a t n).2 + 1)) ht0 (by omega))
            ⟨h0, .inr (.inr (.inl ⟨rfl, rfl⟩))⟩ rfl (fresh_stop _ _) (hlab _)
          simpa using hthr
      · rw [if_neg h20]
        have hop := Through.quiet (M := M) (quiet_oper (M := M) (o := e.oper) (by omega) (by omega) (by omega) (by omega))
        by_cases h33 : regsE a = 3 ∧ regsE b = 3
        · rw [if_pos h33]
          have hta : tempsE a + 1 ≤ tempsE e := by rw [htt, if_pos ⟨by omega, by omega, h33.1, h33.2⟩]; omega
          have ht : ∀ f, (f = 13 ∨ f = 7) → quietL M (lnF f t) := fun f hf => ⟨by simp only [lnF]; unfold is32; omega, .inr (.inr (.inr (.inr ⟨by simp only [lnF]; omega, by simp only [lnF]; omega⟩)))⟩
          simp only
          exact (hib t n ht0 (by omega)).append ((Through.quiet (by simpa using ht 13 (.inl rfl))).append ((hia (t + 1) _ (by omega) (by omega)).append ((Through.quiet (by simpa using ht 7 (.inr rfl))).append hop)))
        · rw [if_neg h33]
          by_cases hlt : regsE a < regsE b
          · rw [if_pos hlt]
            simp only
            exact (hib t n ht0 (by omega)).append ((hia t _ ht0 (by omega)).append ((Through.quiet (by simpa using hO 0 (by simp))).append hop))
          · rw [if_neg hlt]
            simp only
            exact (hia t n ht0 (by omega)).append ((hib t _ ht0 (by omega)).append hop)
end Go.Proofs.YtbefmlioampgcaaDoor

/- Run of the code of a safe expression: not over, no error. -/
namespace Go.Proofs.YtbefmlioampgcaaDoor
open Go.RowKit
set_option linter.unusedVariables false
set_option linter.unusedSimpArgs false

theorem safe_run (env : CEnv) (e : KE) (hv : validE e = true) (hs : safeE e = true) (t : Int) (ws : List Int) (hw : ∀ v ∈ ws, is32 v) (hl : ws.length ≤ 65536) (hoff : e.all (offOk env ws.length)) (ht : 0 ≤ t) (htM : t + tempsE e ≤ ws.length) :
    ∃ a, runQ (codeE env e t 0).1 ws = (a, false, 0) := by
  have hall := validE_all hv
  have hlen := (code_len env e t 0).1
  have hnd := valid_nodes hv
  have h0 : is32 0 := by unfold is32; omega
  obtain ⟨r', m', h1, -, h3⟩ := code_through env ws.length (by omega) e hall hoff hs t 0 ht htM [] ⟨0, 0, 0, false⟩ ws ⟨⟨h0, h0, h0⟩, hw, rfl⟩
  refine ⟨r'.a, ?_⟩
  unfold runQ
  rw [if_neg (by omega), if_neg (by rw [code_fault env e hall t 0]; simp)]
  rw [List.append_nil] at h1
  rw [h1, runS, if_neg (by rw [h3]; simp)]
end Go.Proofs.YtbefmlioampgcaaDoor
