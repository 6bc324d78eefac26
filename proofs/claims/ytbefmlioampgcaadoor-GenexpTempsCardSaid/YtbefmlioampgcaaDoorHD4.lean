/- GenexpTemps: the plain part, own and later. -/
import Derived.Test.YtbefmlioampgcaaDoorHK12
import Derived.Test.YtbefmlioampgcaaDoorHCB
namespace Go.Proofs.YtbefmlioampgcaaDoor
open Go.RowKit
set_option linter.unusedVariables false
set_option linter.unusedSimpArgs false

/-- Each jump of a code goes to one line, that lies behind it. -/
theorem labs_get : ∀ {ls : List LineL} {s : List UInt8}, s ∈ labs ls → (labs ls).Nodup → ∃ (k : Nat) (y : LineL), ls[k]? = some y ∧ y.label = s ∧ ∀ (k' : Nat) (y' : LineL), ls[k']? = some y' → y'.label = s → k' = k
  | [], s, h, _ => by simp [labs] at h
  | x :: l, s, h, hn => by
    by_cases hx : x.label = s
    · refine ⟨0, x, rfl, hx, ?_⟩
      intro k' y' hy he
      cases k' with
      | zero => rfl
      | succ k' =>
        have hs : s ≠ [] := (mem_labs.1 h).1
        rw [labs_yes x (by rw [hx]; exact hs)] at hn
        have : x.label ∈ labs l := mem_labs.2 ⟨by rw [hx]; exact hs, y', List.mem_of_getElem? (by simpa using hy), by rw [he, hx]⟩
        exact absurd this (List.nodup_cons.1 hn).1
    · have hl : s ∈ labs l := by
        obtain ⟨h1, y, hy, h2⟩ := mem_labs.1 h
        rcases List.mem_cons.1 hy with rfl | hy
        · exact absurd h2 hx
        · exact mem_labs.2 ⟨h1, y, hy, h2⟩
      have hn2 : (labs l).Nodup := by
        by_cases hxe : x.label = []
        · rwa [labs_no x hxe] at hn
        · rw [labs_yes x hxe] at hn
          exact (List.nodup_cons.1 hn).2
      obtain ⟨k, y, h1, h2, h3⟩ := labs_get hl hn2
      refine ⟨k + 1, y, h1, h2, ?_⟩
      intro k' y' hy he
      cases k' with
      | zero => simp at hy; subst hy; exact absurd he hx
      | succ k' => rw [h3 k' y' (by simpa using hy) he]
theorem jumps_at : ∀ {ls : List LineL} {i : Nat} {x : LineL}, jumpsOk ls → ls[i]? = some x → x.target = [] ∨ x.target = stopT ∨ x.target ∈ labs (ls.drop (i + 1))
  | [], i, x, _, h => by simp at h
  | y :: l, 0, x, h, hx => by simp at hx; subst hx; exact h.1
  | y :: l, i + 1, x, h, hx => by simpa using jumps_at h.2 (by simpa using hx)
theorem later_of {ls : List LineL} {i : Nat} {x : LineL} (hj : jumpsOk ls) (hn : (labs ls).Nodup) (hx : ls[i]? = some x) (h1 : x.target ≠ []) (h2 : x.target ≠ stopT) :
    ∃ (k : Nat) (y : LineL), i + 1 ≤ k ∧ ls[k]? = some y ∧ y.label = x.target ∧ ∀ (k' : Nat) (y' : LineL), ls[k']? = some y' → y'.label = x.target → k' = k := by
  have h3 : x.target ∈ labs (ls.drop (i + 1)) := by
    rcases jumps_at hj hx with h | h | h
    · exact absurd h h1
    · exact absurd h h2
    · exact h
  have h4 : x.target ∈ labs ls := by
    obtain ⟨h5, y, h6, h7⟩ := mem_labs.1 h3
    exact mem_labs.2 ⟨h5, y, List.mem_of_mem_drop h6, h7⟩
  obtain ⟨k, y, h5, h6, h7⟩ := labs_get h4 hn
  refine ⟨k, y, ?_, h5, h6, h7⟩
  obtain ⟨-, z, hz, hz2⟩ := mem_labs.1 h3
  obtain ⟨q, hq⟩ := List.mem_iff_getElem?.1 hz
  rw [List.getElem?_drop] at hq
  have := h7 _ _ hq hz2
  omega
set_option maxRecDepth 100000 in
set_option maxHeartbeats 4000000 in
theorem lLater (ls : List LineL) (A : Option Addr) (n c : Nat) (hn : n ≤ 1000000) (i : Nat) (t : List UInt8) (hi : i ≤ 1000000) (q : Nat) (y : LineL) (hq : i ≤ q) (hy : ls[q]? = some y) (hyt : y.label = t) (hu : ∀ (k' : Nat) (y' : LineL), ls[k']? = some y' → y'.label = t → k' = q) (w : World) (hr : Reads w w.heap.size 5 A n (linesL ls)) :
    Calls Tryd.prog 16 #[.slice A n c, .int .i64 i, .string (strB t)] w (RetQ (.bool true) w) := by
  have HR := Lib.hid hr
  have HN := Lib.hid (lines_len hr)
  have hqn : q < n := by have := (List.getElem?_eq_some_iff.1 hy).1; have := HN.out; omega
  have HY := Lib.hid hy
  have HU := Lib.hid hu
  have HYT := Lib.hid hyt
  obtain ⟨ST, hst⟩ : ∃ S, strB t = S := ⟨_, rfl⟩
  have HT := Lib.hid hst
  simp only [hst]
  clear hr hy hu hyt hst
  go_enter Tryd.func16, Tryd.ntmps16
  go_wp2
  go_loopw [7, 8] (fun a b wr => ∃ k : Nat, k ≤ n ∧ b = .int .i64 k ∧ a = .int .i64 (if q < k then 1 else 0) ∧ wr = w) (fun _ b _ => n - (intOf b).toNat)
  case atStart => exact ⟨0, Nat.zero_le _, rfl, rfl, rfl⟩
  case round =>
    obtain ⟨k, hk, rfl, rfl, rfl⟩ := hrel
    by_cases hlt : k < n
    · have hltI : (k : Int) < n := by omega
      have hkN : ¬ n ≤ k := by omega
      obtain ⟨b, off, x, rfl, hb, hx, c0, c1, c2, c3, c4⟩ := lines_at HR.out hlt
      have HX := Lib.hid hx
      clear hx
      by_cases hkq : k = q
      · subst hkq
        have hxy : x = y := by have := HX.out; rw [HY.out] at this; exact (Option.some.inj this).symm
        have e1 : ((strB x.label).toList == ST.toList) = true := by rw [← HT.out, hxy, HYT.out]; simp
        have hq0 : ¬ k < k := by omega
        have hq1 : ¬ (k : Int) < i := by omega
        generalize strB x.label = SL at *
        clear hxy
        rw [if_neg hq0]
        go_wp2
        go_roundw
        case rel => exact ⟨k + 1, by omega, by go_num, by rw [if_pos (by omega)], by first | trivial | rfl⟩
        case measure => simp [intOf]; omega
      · have hne : ¬ strB x.label = ST := by
          rw [← HT.out]; intro e; exact hkq (HU.out k x HX.out (by have := congrArg (fun s : ByteArray => s.data.toList) e; simpa [strB] using this))
        have e1 : ((strB x.label).toList == ST.toList) = false := str_ne hne
        generalize strB x.label = SL at *
        clear hne
        obtain ⟨V, hV⟩ : ∃ V : Int, (if q < k then 1 else 0) = V := ⟨_, rfl⟩
        have HV := Lib.hid hV
        rw [hV]
        clear hV
        go_wp2
        go_roundw
        case rel => exact ⟨k + 1, by omega, by go_num, by rw [← HV.out]; congr 1; by_cases h : q < k <;> simp [h] <;> omega, by first | trivial | rfl⟩
        case measure => simp [intOf]; omega
    · have hltI : ¬ (k : Int) < n := by omega
      have hkN : n ≤ k := by omega
      rw [if_pos (show q < k by omega)]
      go_wp2
      go_ret
      exact ⟨rfl, rfl⟩
theorem own_eq (l d : List UInt8) : (((strB (l ++ 46 :: d)).extract 0 ((strB l).size + 1)).toList == (strB l ++ { data := #[46] }).toList) = true := by
  have hs : (strB l).size = l.length := by simp [strB, ByteArray.size]
  have e1 : ((strB (l ++ 46 :: d)).extract 0 ((strB l).size + 1)).data.toList = l ++ [46] := by
    rw [hs, ByteArray.data_extract]
    simp only [strB]
    rw [Array.toList_extract]
    simp [List.extract_eq_take_drop, List.take_append]
    exact List.take_of_length_le (by omega)
  have e2 : (strB l ++ { data := #[46] }).data.toList = l ++ [46] := by
    rw [ByteArray.data_append]
    simp [strB]
  rw [ByteArray.toList_eq, ByteArray.toList_eq, e1, e2]
  simp
set_option maxRecDepth 100000 in
set_option maxHeartbeats 4000000 in
theorem lOwn (l d : List UInt8) (hd : d ≠ []) (h2 : l.length ≤ 1000000) (w : World) :
    Calls Tryd.prog 15 #[.string (strB (l ++ 46 :: d)), .string (strB l)] w (RetQ (.bool true) w) := by
  have he := own_eq l d
  have h1 : (strB l).size + 1 < (strB (l ++ 46 :: d)).size := by
    have : 0 < d.length := List.length_pos_iff.2 hd
    simp [strB, ByteArray.size]
    omega
  have h4 : (strB l).size ≤ 1000000 := by
    simp [strB, ByteArray.size]
    omega
  generalize strB (l ++ 46 :: d) = S at *
  generalize strB l = L at *
  have h3 : (L.size : Int) + 1 < S.size := by omega
  have HE := Lib.hid he
  clear he
  go_enter Tryd.func15, Tryd.ntmps15
  go_wp2
  go_ret
  exact ⟨by rw [HE.out]; rfl, rfl⟩
end Go.Proofs.YtbefmlioampgcaaDoor
