
/- The reference's Find, walked. -/
import Derived.Test.YtibflkphkjacnaaDoorI4
namespace Go.Proofs.YtibflkphkjacnaaDoor
open Go.RowKit
set_option linter.unusedVariables false
set_option linter.unusedSimpArgs false

def rowA (r : IRow) : Value := .agg #[.int .u8 r.fn, .int .i32 r.arg, .string (strB r.name), .int .i64 r.takes, .int .i64 r.leaves]
/-- A row, or none, as Find hands it back. -/
def rowR (o : Option IRow) : Value := .tuple #[rowA (o.getD irow0), .bool o.isSome]
theorem rowsV_at {l : List IRow} {k : Nat} {r : IRow} (h : l[k]? = some r) : (rowsV l)[k * 5]? = some (.int .u8 r.fn) ∧ (rowsV l)[k * 5 + 1]? = some (.int .i32 r.arg) ∧ (rowsV l)[k * 5 + 2]? = some (.string (strB r.name)) ∧
    (rowsV l)[k * 5 + 3]? = some (.int .i64 r.takes) ∧ (rowsV l)[k * 5 + 4]? = some (.int .i64 r.leaves) := by
  have hg : ∀ j v, (rowCells r)[j]? = some v → (rowsV l)[k * 5 + j]? = some v := by
    intro j v hv
    have hj : j < 5 := by
      have := (List.getElem?_eq_some_iff.1 hv).1
      simpa [rowCells] using this
    have : ∀ (l : List IRow) (k : Nat), l[k]? = some r → (l.flatMap rowCells)[k * 5 + j]? = some v := by
      intro l
      induction l with
      | nil => intro k h; simp at h
      | cons x l ih =>
        intro k h
        cases k with
        | zero =>
          simp at h; subst h
          rw [List.flatMap_cons, List.getElem?_append_left (by simp [rowCells]; omega)]
          simpa using hv
        | succ k =>
          rw [List.flatMap_cons, List.getElem?_append_right (by simp [rowCells]; omega)]
          have e : (k + 1) * 5 + j - (rowCells x).length = k * 5 + j := by simp [rowCells]; omega
          rw [e]
          exact ih k (by simpa using h)
    simp only [rowsV, List.getElem?_toArray]
    exact this l k h
  exact ⟨hg 0 _ rfl, hg 1 _ rfl, hg 2 _ rfl, hg 3 _ rfl, hg 4 _ rfl⟩
theorem rFindF (fn arg : Int) (hf : 0 ≤ fn ∧ fn ≤ 255) (h15 : fn ≠ 15) (w : World) : Calls Tryd.prog 9 #[.agg #[.int .u8 fn, .int .i32 arg]] w (RetV (rowR (findI fn arg)) w) := by
  have t15 : (fn == 15) = false := by simpa using h15
  have t15' : (fn != 15) = true := by simpa using h15
  have hF : findI fn arg = tabF.find? fun r => (r.fn : Int) == fn := by unfold findI; rw [if_neg h15]
  have HF := Lib.hid hF
  clear hF
  go_enter Tryd.func9, Tryd.ntmps9
  go_wp2_with (first
    | (go_at_call 21; refine (rFunctions _).mono ?_; rintro e w1 ⟨rfl, rfl⟩))
  obtain ⟨k1, k2, k3⟩ := lay2 w #[.int .u8 fn, .int .i32 arg] #[.int .u8 0, .int .i32 0, .string ⟨#[]⟩, .int .i64 0, .int .i64 0] 23 25
  obtain ⟨W1, hW1⟩ : ∃ W1, (w.alloc (Obj.cells #[.int .u8 fn, .int .i32 arg] 23)).alloc (Obj.cells #[.int .u8 0, .int .i32 0, .string ⟨#[]⟩, .int .i64 0, .int .i64 0] 25) = W1 := ⟨_, rfl⟩
  have hsz : W1.heap.size = w.heap.size + 2 := by rw [← hW1]; simp
  rw [hW1] at k1 k2 k3 ⊢
  clear hW1
  have b3 := Blk.new W1 25 (rowsV tabF)
  have b1 := k2.alloc (.cells (rowsV tabF) 25)
  have b2 := k3.alloc (.cells (rowsV tabF) 25)
  have kB := k1.alloc (by omega) (.cells (rowsV tabF) 25)
  rw [hsz] at b3
  obtain ⟨W2, hW2⟩ : ∃ W2, W1.alloc (.cells (rowsV tabF) 25) = W2 := ⟨_, rfl⟩
  rw [hW2] at b1 b2 b3 kB ⊢
  clear hW2 k1 k2 k3 hsz
  go_loopw [5] (fun i wr => ∃ k : Nat, k ≤ 13 ∧ i = .int .i64 k ∧ Hid (tabF.find? (fun r => (r.fn : Int) == fn) = (tabF.drop k).find? (fun r => (r.fn : Int) == fn)) ∧ Blk wr w.heap.size 23 #[.int .u8 fn, .int .i32 arg] ∧
    Blk wr (w.heap.size + 1) 25 #[.int .u8 0, .int .i32 0, .string ⟨#[]⟩, .int .i64 0, .int .i64 0] ∧ Blk wr (w.heap.size + 2) 25 (rowsV tabF) ∧ Below w.heap.size w wr) (fun i _ => 13 - (intOf i).toNat)
  case atStart => exact ⟨0, by omega, rfl, rfl, b1, b2, b3, kB⟩
  case round =>
    clear b1 b2 b3 kB
    obtain ⟨k, hk, rfl, Hk, b1, b2, b3, kB⟩ := hrel
    have c10 := b1.cell 0
    have c11 := b1.cell 1
    simp at c10 c11
    have e20 := b2.cell 0
    have e21 := b2.cell 1
    have e22 := b2.cell 2
    have e23 := b2.cell 3
    have e24 := b2.cell 4
    simp at e20 e21 e22 e23 e24
    have f20 := b2.frozen 0
    have f21 := b2.frozen 1
    have f22 := b2.frozen 2
    have f23 := b2.frozen 3
    have f24 := b2.frozen 4
    have l2 := b2.lt
    have kD : ∀ n, Below w.heap.size w (wr.drewN n) := fun n => kB.trans ⟨rfl, rfl, rfl, Nat.le_refl _, fun _ _ => rfl⟩
    have KD := Lib.hid kD
    clear kD
    by_cases hlt : k < 13
    · have hltI : (k : Int) < 13 := by omega
      obtain ⟨r, hr⟩ : ∃ r, tabF[k]? = some r := ⟨_, List.getElem?_eq_getElem (by rw [tabF_len]; exact hlt)⟩
      obtain ⟨v0, v1, v2, v3, v4⟩ := rowsV_at hr
      have d0 := b3.cell (k * 5)
      have d1 := b3.cell (k * 5 + 1)
      have d2 := b3.cell (k * 5 + 2)
      have d3 := b3.cell (k * 5 + 3)
      have d4 := b3.cell (k * 5 + 4)
      rw [v0] at d0
      rw [v1] at d1
      rw [v2] at d2
      rw [v3] at d3
      rw [v4] at d4
      have hdrop : tabF.drop k = r :: tabF.drop (k + 1) := by
        obtain ⟨h, hr⟩ := List.getElem?_eq_some_iff.1 hr
        rw [List.drop_eq_getElem_cons h, hr]
      have hk2 := Hk.out
      rw [hdrop, List.find?_cons] at hk2
      clear v0 v1 v2 v3 v4 hr hdrop
      cases hm : ((r.fn : Int) == fn)
      · rw [hm] at hk2
        have HK := Lib.hid hk2
        clear hk2 Hk
        go_wp2
        go_quiet (fail)
        go_wp2
        go_roundw
        case rel => exact ⟨k + 1, by omega, by go_num, HK.out, b1, b2, b3, KD.out _⟩
        case measure => simp [intOf]; omega
      · rw [hm] at hk2
        have HK := Lib.hid (HF.out.trans hk2)
        clear hk2 Hk
        go_wp2
        go_quiet (fail)
        go_wp2
        refine bodyPost_ret (v := rowR (some r)) (by simp [results, Tryd.results9, go_sem, e20, e21, e22, e23, e24, rowR, rowA]) rfl ⟨by rw [HK.out], ?_⟩
        exact (((((KD.out _).setCell (by simp) _).setCell (by simp) _).setCell (by simp) _).setCell (by simp) _).setCell (by simp) _
    · have hltI : ¬ (k : Int) < 13 := by omega
      have hno : findI fn arg = none := by
        rw [HF.out, Hk.out, List.drop_of_length_le (by rw [tabF_len]; omega)]; rfl
      have HN := Lib.hid hno
      clear hno Hk
      go_wp2
      refine bodyPost_ret (v := rowR none) (by simp [results, Tryd.results9, go_sem, e20, e21, e22, e23, e24, rowR, rowA, irow0, strB]) rfl ⟨by rw [HN.out], ?_⟩
      exact ((((kB.setCell (by simp) _).setCell (by simp) _).setCell (by simp) _).setCell (by simp) _).setCell (by simp) _
theorem rFindO (arg : Int) (w : World) : Calls Tryd.prog 9 #[.agg #[.int .u8 15, .int .i32 arg]] w (RetV (rowR (findI 15 arg)) w) := by
  have hF : findI 15 arg = tabO.find? fun r => (r.arg : Int) == arg := by unfold findI; rw [if_pos rfl]
  have HF := Lib.hid hF
  clear hF
  go_enter Tryd.func9, Tryd.ntmps9
  go_wp2_with (first
    | (go_at_call 21; refine (rFunctions _).mono ?_; rintro e w1 ⟨rfl, rfl⟩)
    | (go_at_call 22; refine (rOperations _).mono ?_; rintro e w1 ⟨rfl, rfl⟩))
  obtain ⟨k1, k2, k3⟩ := lay2 w #[.int .u8 15, .int .i32 arg] #[.int .u8 0, .int .i32 0, .string ⟨#[]⟩, .int .i64 0, .int .i64 0] 23 25
  obtain ⟨W1, hW1⟩ : ∃ W1, (w.alloc (Obj.cells #[.int .u8 15, .int .i32 arg] 23)).alloc (Obj.cells #[.int .u8 0, .int .i32 0, .string ⟨#[]⟩, .int .i64 0, .int .i64 0] 25) = W1 := ⟨_, rfl⟩
  have hsz : W1.heap.size = w.heap.size + 2 := by rw [← hW1]; simp
  rw [hW1] at k1 k2 k3 ⊢
  clear hW1
  have b1 := (k2.alloc (.cells (rowsV tabF) 25)).alloc (.cells (rowsV tabO) 25)
  have b2 := (k3.alloc (.cells (rowsV tabF) 25)).alloc (.cells (rowsV tabO) 25)
  have kB := (k1.alloc (by omega) (.cells (rowsV tabF) 25)).alloc (by simp <;> omega) (.cells (rowsV tabO) 25)
  have b3 := Blk.new (W1.alloc (.cells (rowsV tabF) 25)) 25 (rowsV tabO)
  rw [World.size_alloc, hsz] at b3
  obtain ⟨W2, hW2⟩ : ∃ W2, (W1.alloc (.cells (rowsV tabF) 25)).alloc (.cells (rowsV tabO) 25) = W2 := ⟨_, rfl⟩
  rw [hW2] at b1 b2 b3 kB ⊢
  clear hW2 k1 k2 k3 hsz
  go_loopw [5] (fun i wr => ∃ k : Nat, k ≤ 74 ∧ i = .int .i64 k ∧ Hid (tabO.find? (fun r => (r.arg : Int) == arg) = (tabO.drop k).find? (fun r => (r.arg : Int) == arg)) ∧ Blk wr w.heap.size 23 #[.int .u8 15, .int .i32 arg] ∧
    Blk wr (w.heap.size + 1) 25 #[.int .u8 0, .int .i32 0, .string ⟨#[]⟩, .int .i64 0, .int .i64 0] ∧ Blk wr (w.heap.size + 3) 25 (rowsV tabO) ∧ Below w.heap.size w wr) (fun i _ => 74 - (intOf i).toNat)
  case atStart => exact ⟨0, by omega, rfl, rfl, b1, b2, b3, kB⟩
  case round =>
    clear b1 b2 b3 kB
    obtain ⟨k, hk, rfl, Hk, b1, b2, b3, kB⟩ := hrel
    have c10 := b1.cell 0
    have c11 := b1.cell 1
    simp at c10 c11
    have e20 := b2.cell 0
    have e21 := b2.cell 1
    have e22 := b2.cell 2
    have e23 := b2.cell 3
    have e24 := b2.cell 4
    simp at e20 e21 e22 e23 e24
    have f20 := b2.frozen 0
    have f21 := b2.frozen 1
    have f22 := b2.frozen 2
    have f23 := b2.frozen 3
    have f24 := b2.frozen 4
    have l2 := b2.lt
    have kD : ∀ n, Below w.heap.size w (wr.drewN n) := fun n => kB.trans ⟨rfl, rfl, rfl, Nat.le_refl _, fun _ _ => rfl⟩
    have KD := Lib.hid kD
    clear kD
    by_cases hlt : k < 74
    · have hltI : (k : Int) < 74 := by omega
      obtain ⟨r, hr⟩ : ∃ r, tabO[k]? = some r := ⟨_, List.getElem?_eq_getElem (by rw [tabO_len]; exact hlt)⟩
      obtain ⟨v0, v1, v2, v3, v4⟩ := rowsV_at hr
      have d0 := b3.cell (k * 5)
      have d1 := b3.cell (k * 5 + 1)
      have d2 := b3.cell (k * 5 + 2)
      have d3 := b3.cell (k * 5 + 3)
      have d4 := b3.cell (k * 5 + 4)
      have E15 := Lib.hid (tabO_ok r (List.mem_of_getElem? hr)).1
      rw [v0, E15.out] at d0
      rw [v1] at d1
      rw [v2] at d2
      rw [v3] at d3
      rw [v4] at d4
      have hdrop : tabO.drop k = r :: tabO.drop (k + 1) := by
        obtain ⟨h, hr⟩ := List.getElem?_eq_some_iff.1 hr
        rw [List.drop_eq_getElem_cons h, hr]
      have hk2 := Hk.out
      rw [hdrop, List.find?_cons] at hk2
      clear v0 v1 v2 v3 v4 hr hdrop
      cases hm : ((r.arg : Int) == arg)
      · rw [hm] at hk2
        have HK := Lib.hid hk2
        clear hk2 Hk
        go_wp2
        go_quiet (fail)
        go_wp2
        go_roundw
        case rel => exact ⟨k + 1, by omega, by go_num, HK.out, b1, b2, b3, KD.out _⟩
        case measure => simp [intOf]; omega
      · rw [hm] at hk2
        have HK := Lib.hid (HF.out.trans hk2)
        clear hk2 Hk
        go_wp2
        go_quiet (fail)
        go_wp2
        refine bodyPost_ret (v := rowR (some r)) (by simp [E15.out, results, Tryd.results9, go_sem, e20, e21, e22, e23, e24, rowR, rowA]) rfl ⟨by rw [HK.out], ?_⟩
        exact (((((KD.out _).setCell (by simp) _).setCell (by simp) _).setCell (by simp) _).setCell (by simp) _).setCell (by simp) _
    · have hltI : ¬ (k : Int) < 74 := by omega
      have hno : findI 15 arg = none := by
        rw [HF.out, Hk.out, List.drop_of_length_le (by rw [tabO_len]; omega)]; rfl
      have HN := Lib.hid hno
      clear hno Hk
      go_wp2
      refine bodyPost_ret (v := rowR none) (by simp [results, Tryd.results9, go_sem, e20, e21, e22, e23, e24, rowR, rowA, irow0, strB]) rfl ⟨by rw [HN.out], ?_⟩
      exact ((((kB.setCell (by simp) _).setCell (by simp) _).setCell (by simp) _).setCell (by simp) _).setCell (by simp) _
theorem rFind (fn arg : Int) (hf : 0 ≤ fn ∧ fn ≤ 255) (w : World) : Calls Tryd.prog 9 #[.agg #[.int .u8 fn, .int .i32 arg]] w (RetV (rowR (findI fn arg)) w) := by
  by_cases h : fn = 15
  · subst h; exact rFindO arg w
  · exact rFindF fn arg hf h w
end Go.Proofs.YtibflkphkjacnaaDoor
