
/- The reference's Named, walked. -/
import Derived.Test.YtibflkphkjacnaaDoorI5
namespace Go.Proofs.YtibflkphkjacnaaDoor
open Go.RowKit
set_option linter.unusedVariables false
set_option linter.unusedSimpArgs false

/-- An instruction, or none, as Named hands it back. -/
def instR (o : Option IRow) : Value := .tuple #[.agg #[.int .u8 (o.getD irow0).fn, .int .i32 (o.getD irow0).arg], .bool o.isSome]
theorem tab_len : (tabF ++ tabO).length = 87 := rfl
theorem row_info : (Tryd.prog.info? 25).map (fun i => (i.zero, i.size, i.bytes)) = some (some (.agg #[.int .u8 0, .int .i32 0, .string ByteArray.empty, .int .i64 0, .int .i64 0]), 5, 40) := by kernel_rfl
theorem rows_one (l : List IRow) : ∀ u ∈ (rowsV l).toList, u.oneCell' = true := by
  intro u hu
  simp only [rowsV] at hu
  obtain ⟨r, _, h⟩ := List.mem_flatMap.1 hu
  simp only [rowCells, List.mem_cons, List.not_mem_nil, or_false] at h
  rcases h with rfl | rfl | rfl | rfl | rfl <;> rfl
theorem rowsV_size (l : List IRow) : (rowsV l).size = l.length * 5 := by
  simp only [rowsV, List.size_toArray, List.length_flatMap]
  induction l with
  | nil => rfl
  | cons r l ih => simp [rowCells] at ih ⊢; omega
theorem rowsV_app (l m : List IRow) : (rowsV l).toList ++ (rowsV m).toList = (rowsV (l ++ m)).toList := by simp [rowsV]
set_option maxRecDepth 100000 in
theorem rNamed (S : ByteArray) (w : World) : Calls Tryd.prog 17 #[.string S] w (RetV (instR (namedI S.data.toList)) w) := by
  obtain ⟨i0, hi0, hz0, hz1, hz2⟩ := info_parts row_info
  have hN : namedI S.data.toList = (tabF ++ tabO).find? fun r => r.name == S.data.toList := rfl
  have HN := Lib.hid hN
  clear hN
  obtain ⟨wb, hwb⟩ : ∃ wb, w.alloc (.cells #[.int .u8 0, .int .i32 0] 23) = wb := ⟨_, rfl⟩
  have hbs : wb.heap.size = w.heap.size + 1 := by rw [← hwb]; simp
  have hB0 : Below w.heap.size w wb := by rw [← hwb]; exact (Below.refl _ _).alloc (Nat.le_refl _) _
  have k0 : Blk wb w.heap.size 23 #[.int .u8 0, .int .i32 0] := by rw [← hwb]; exact Blk.new w _ _
  have hownF := (World.ownsRow_lit (base := w.heap.size + 1) (e := 25) (size := 5) wb (rowsV tabF) 13 (by omega) (by unfold maxLen; omega) (by rw [rowsV_size]; rfl)).alloc (.cells (rowsV tabO) 25)
  have hownO := World.ownsRow_lit (base := w.heap.size + 1) (e := 25) (size := 5) (wb.alloc (.cells (rowsV tabF) 25)) (rowsV tabO) 74 (by simp; omega) (by unfold maxLen; omega) (by rw [rowsV_size]; rfl)
  have hrO := Reads.of_own hownO
  simp only [World.size_alloc, hbs] at hrO hownO
  rw [hbs] at hownF
  have k2 := (k0.alloc (.cells (rowsV tabF) 25)).alloc (.cells (rowsV tabO) 25)
  have kB := (hB0.alloc (by omega) (.cells (rowsV tabF) 25)).alloc (by simp <;> omega) (.cells (rowsV tabO) 25)
  obtain ⟨W2, hW2⟩ : ∃ W2, (wb.alloc (.cells (rowsV tabF) 25)).alloc (.cells (rowsV tabO) 25) = W2 := ⟨_, rfl⟩
  have hs2 : W2.heap.size = w.heap.size + 3 := by rw [← hW2]; simp [hbs]
  rw [hW2] at hownF hownO hrO k2 kB
  have HW2 := Lib.hid hW2
  have Hwb := Lib.hid hwb
  have hoF := rows_one tabO
  have hss : S.size = S.size := rfl
  clear hW2 hwb hownO hB0 k0
  go_enter Tryd.func17, Tryd.ntmps17
  go_wp2_with (first
    | (go_at_call 21; rw [Hwb.out]; refine (rFunctions _).mono ?_; rintro e w1 ⟨rfl, rfl⟩; rw [hbs])
    | (go_at_call 22; refine (rOperations _).mono ?_; rintro e w1 ⟨rfl, rfl⟩; rw [HW2.out, World.size_alloc, hbs])
    | (at_builtin; refine wpList_append_any W2 rfl (.tmp 6) (.tmp 7) 46 rfl (w.heap.size + 1) 25 i0 _ 5 40 Tryd.underlying46 hi0 hz0 hz1 hz2 rfl (by decide) _ 13 _ rfl hownF _ (some ⟨w.heap.size + 1 + 1, 0, none⟩) 74 74 _ rfl hrO hoF (by unfold maxLen; omega) (by omega) (by omega) ?_; intro v' w' hown' hgr hat))
  have hgr2 : W2.grownBy w' (some (w.heap.size + 1)) := hgr
  have kB' := kB.grown hgr2 kB.size (fun k e => by injection e; omega)
  have k2' := k2.grown hgr2 (by simp)
  rw [rowsV_app] at hown'
  clear hgr hat hgr2 kB k2 hrO hownF HW2 Hwb hoF hss
  obtain ⟨g, cap, rfl, hgb, hgl⟩ := hown'.form (by omega)
  have hr := Reads.of_own hown'
  obtain ⟨ad, e, hb, hc⟩ := hr.2 (by omega)
  injection e with e
  subst e
  have HC := Lib.hid hc
  clear hown' hr hc hb
  have h87 : (13 : Int) + 74 = 87 := rfl
  have e20 := k2'.cell 0
  have e21 := k2'.cell 1
  simp at e20 e21
  have f20 := k2'.frozen 0
  have f21 := k2'.frozen 1
  have l2 := k2'.lt
  go_loop [5] (fun i => ∃ k : Nat, k ≤ 87 ∧ i = .int .i64 k ∧ Hid ((tabF ++ tabO).find? (fun r => r.name == S.data.toList) = ((tabF ++ tabO).drop k).find? (fun r => r.name == S.data.toList))) (fun i => 87 - (intOf i).toNat)
  case atStart => exact ⟨0, by omega, rfl, rfl⟩
  case round =>
    obtain ⟨k, hk, rfl, Hk⟩ := hrel
    by_cases hlt : k < 87
    · have hltI : (k : Int) < 87 := by omega
      obtain ⟨r, hr⟩ : ∃ r, (tabF ++ tabO)[k]? = some r := ⟨_, List.getElem?_eq_getElem (by rw [tab_len]; exact hlt)⟩
      obtain ⟨v0, v1, v2, v3, v4⟩ := rowsV_at hr
      rw [← Array.getElem?_toList] at v0 v1 v2
      have d0 := HC.out (k * 5) _ v0
      have d1 := HC.out (k * 5 + 1) _ v1
      have d2 := HC.out (k * 5 + 2) _ v2
      rw [Addr.add_lit] at d0 d1 d2
      simp only [Nat.zero_add] at d0 d1 d2
      have hdrop : (tabF ++ tabO).drop k = r :: (tabF ++ tabO).drop (k + 1) := by
        obtain ⟨h, hr⟩ := List.getElem?_eq_some_iff.1 hr
        rw [List.drop_eq_getElem_cons h, hr]
      have hk2 := Hk.out
      rw [hdrop, List.find?_cons] at hk2
      have hm' : ((strB r.name).toList == S.toList) = (r.name == S.data.toList) := by rw [ByteArray.toList_eq, ByteArray.toList_eq]; rfl
      clear v0 v1 v2 v3 v4 hr hdrop
      cases hm : (r.name == S.data.toList)
      · rw [hm] at hk2 hm'
        have HK := Lib.hid hk2
        clear hk2 Hk hm
        go_wp2
        go_round
        case rel => exact ⟨k + 1, by omega, by go_num, HK.out⟩
        case measure => simp [intOf]; omega
      · rw [hm] at hk2 hm'
        have HK := Lib.hid (HN.out.trans hk2)
        clear hk2 Hk hm
        go_wp2
        refine bodyPost_ret (v := instR (some r)) (by simp [results, Tryd.results17, go_sem, e20, e21, instR]) rfl ⟨by rw [HK.out], ?_⟩
        exact (kB'.setCell (by simp) _).setCell (by simp) _
    · have hltI : ¬ (k : Int) < 87 := by omega
      have hno : namedI S.data.toList = none := by
        rw [HN.out, Hk.out, List.drop_of_length_le (by rw [tab_len]; omega)]; rfl
      have HNO := Lib.hid hno
      clear hno Hk
      go_wp2
      refine bodyPost_ret (v := instR none) (by simp [results, Tryd.results17, go_sem, e20, e21, instR, irow0]) rfl ⟨by rw [HNO.out], ?_⟩
      exact (kB'.setCell (by simp) _).setCell (by simp) _
end Go.Proofs.YtibflkphkjacnaaDoor
