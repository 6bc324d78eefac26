/- Run, walked in the program: the loop over the lines. -/
import Derived.Test.YtbefmlioampgcaaGreatDoorHK10
namespace Go.Proofs.YtbefmlioampgcaaGreatDoor
open Go.RowKit Go.Maps Go.WideMaps

set_option maxRecDepth 100000 in
set_option maxHeartbeats 8000000 in
theorem wRun (ls : List LineL) (hok : ∀ x ∈ ls, LOk x) (A : Option Addr) (n c : Nat) (hn : n ≤ 9223372036854775807) (ws : List Int) (hws : ∀ v ∈ ws, is32 v) (Aw : Option Addr) (m cw : Nat) (hm : ws.length = m) (hm2 : m ≤ 9223372036854775807) (w : World)
    (hr : Reads w w.heap.size 5 A n (linesL ls)) (hrw : Reads w w.heap.size 1 Aw m (wordsC ws)) :
    Calls Tryz.prog 8 #[.slice A n c, .slice Aw m cw] w (RetV (runV (runQ ls ws)) w) := by
  have HR := Lib.hid hr
  have HRW := Lib.hid hrw
  have HK := Lib.hid hok
  have HWS := Lib.hid hws
  have HN := Lib.hid (lines_len hr)
  have HM := Lib.hid hm
  have HQ : Hid (runQ ls ws = if 4096 < ls.length ∨ 65536 < ws.length then (0, false, 3) else if faultE ls ≠ 0 then (0, false, faultE ls) else runS ls none ⟨0, 0, 0, false⟩ ws) := Lib.hid rfl
  obtain ⟨i0, hi0, hz0, hz1, hz2⟩ := info_parts i32_info
  generalize runQ ls ws = R at *
  clear hr hok hrw hws hm
  go_enter Tryz.func8, Tryz.ntmps8
  by_cases h1 : 4096 < n
  · have h1I : (4096 : Int) < n := by omega
    obtain rfl : R = (0, false, 3) := by rw [HQ.out, if_pos (.inl (by rw [HN.out]; exact h1))]
    go_wp2
    go_ret3
    exact ⟨rfl, Below.refl _ _⟩
  have h1I : ¬ (4096 : Int) < n := by omega
  by_cases h2 : 65536 < m
  · have h2I : (65536 : Int) < m := by omega
    obtain rfl : R = (0, false, 3) := by rw [HQ.out, if_pos (.inr (by rw [HM.out]; exact h2))]
    go_wp2
    go_ret3
    exact ⟨rfl, Below.refl _ _⟩
  have h2I : ¬ (65536 : Int) < m := by omega
  have HQ2 : Hid (R = if faultE ls ≠ 0 then (0, false, faultE ls) else runS ls none ⟨0, 0, 0, false⟩ ws) := Lib.hid (by rw [HQ.out, if_neg (by rw [HN.out, HM.out]; omega)])
  clear HQ
  have HC := Lib.hid (wCheck ls HK.out A n c (by omega) w HR.out)
  have hWo : ∀ w1 : World, w.heap.size ≤ w1.heap.size → (w1.alloc (.cells #[] 21)).ownsRow w.heap.size 21 1 (.slice (some ⟨w1.heap.size, 0, none⟩) 0 0) 0 [] := fun w1 h => World.ownsRow_lit (base := w.heap.size) (e := 21) (size := 1) w1 #[] 0 h (by unfold maxLen; omega) rfl
  have HWO := Lib.hid hWo
  clear hWo
  by_cases hf : faultE ls = 0
  · have HF := Lib.hid hf
    have HQ3 : Hid (R = runS ls none ⟨0, 0, 0, false⟩ ws) := Lib.hid (by rw [HQ2.out, if_neg (by rw [hf]; simp)])
    clear HQ2 hf
    go_wp2_with first
      | (go_at_call 23; (with_reducible refine HC.out.mono ?_); rintro e w1 ⟨hb1, hh⟩
         obtain ⟨-, mb, q, rfl, ho, hmb, hd⟩ : faultE ls = 0 ∧ ∃ b n, e = .returned (.tuple #[.map (some b), .int .i64 0]) ∧ OwnI w1 b n (mapG ls) ∧ w.heap.size ≤ b ∧ Dist ls := by
           rcases hh with h | h
           · exact h
           · exact absurd HF.out h.1
         have HB1 := Lib.hid hb1
         have HO1 := Lib.hid ho
         have HMB := Lib.hid hmb
         have HD := Lib.hid hd
         have hs1 := hb1.size
         clear hh ho hmb hd hb1)
      | (at_builtin; refine wpList_append_any (w1.alloc (.cells #[] 21)) rfl (.tmp 28) (.tmp 29) 36 rfl w.heap.size 21 i0 _ 1 4 Tryz.underlying36 hi0 hz0 hz1 hz2 rfl (by decide) _ 0 [] rfl (HWO.out w1 hs1) w.heap.size Aw m cw (wordsC ws) rfl ((HRW.out.below HB1.out).alloc hs1 _) (words_one ws) (by unfold maxLen; omega) (by omega) (by simp; omega) ?_; intro v' w2 hown hgr hat
         have hown2 : w2.ownsRow w.heap.size 21 1 v' m (wordsC ws) := by simpa using hown
         obtain ⟨A2, cc2, rfl⟩ := own_form hown2
         have hgr2 : (w1.alloc (.cells #[] 21)).grownBy w2 (some w1.heap.size) := hgr
         have ho2 : OwnI w2 mb q (mapG ls) := (HO1.out.alloc _).kept hgr2 (by have := HO1.out.lt; simp; omega)
         have hb2 : Below w.heap.size w w2 := (HB1.out.alloc hs1 (.cells #[] 21)).grown hgr2 (by simp; omega) (fun k e => by injection e; omega)
         obtain ⟨g, hmem, hg1, hg2, hg3⟩ := own_mem HM.out hown2 hb2.size ho2
         obtain ⟨s, hs⟩ : ∃ s, w2.heap.size = s := ⟨_, rfl⟩
         obtain ⟨W3, hW3⟩ : ∃ W, w2.alloc (.cells #[.int .i32 0, .int .i32 0, .int .i32 0, .bool false] 79) = W := ⟨_, rfl⟩
         have HRA : Hid (RunAt ls w mb q s g A2 m R 0 ⟨0, 0, 0, false⟩ ws W3) := Lib.hid (by
           subst hs hW3
           exact ⟨hb2.alloc hb2.size _, ho2.alloc _, Blk.new w2 _ _, fun h => ⟨(hmem h).1, (hmem h).2.alloc _⟩, ⟨is32_0, is32_0, is32_0⟩, HWS.out, HM.out, by rw [List.drop_zero]; exact HQ3.out.symm⟩)
         have HNE : Hid (w.heap.size ≤ mb ∧ w.heap.size ≤ s ∧ w.heap.size ≤ g ∧ s ≠ g ∧ mb ≠ s ∧ mb ≠ g) := Lib.hid ⟨HMB.out, by rw [← hs]; exact hb2.size, hg1, by rw [← hs]; omega, by have := ho2.lt; omega, hg3⟩
         clear hown hgr hat hown2 hgr2 ho2 hb2 hmem hg1 hg2 hg3)
    clear HO1 HB1 HWO HC hs1 HQ3 HMB hi0 hz0 hz1 hz2
    go_loopw [10] (fun i wr => ∃ (k : Nat) (r : RegL) (mm : List Int), k ≤ n ∧ i = .int .i64 k ∧ Hid (RunAt ls w mb q s g A2 m R k r mm wr)) (fun i _ => n - (intOf i).toNat)
    case atStart => exact ⟨0, _, _, by omega, rfl, HRA⟩
    case round =>
      clear HRA
      obtain ⟨k, r, mm, hk, rfl, H⟩ := hrel
      by_cases hlt : k < n
      · have hltI : (k : Int) < n := by omega
        obtain ⟨b, off, x, rfl, hb, hx, c0, c1, c2, c3, c4⟩ := lines_at (HR.out.below H.out.below) hlt
        have hbs : b < wr.heap.size := by have := H.out.below.size; omega
        have HXO := Lib.hid (HK.out x (List.mem_of_getElem? hx))
        have hgo := run_go hx r mm
        obtain ⟨W1, hW1⟩ : ∃ W, wr.alloc (.cells (lineC x) 62) = W := ⟨_, rfl⟩
        have b0 : Blk W1 wr.heap.size 62 (lineC x) := by rw [← hW1]; exact Blk.new wr _ _
        have HW : Hid (RunAt ls w mb q s g A2 m R k r mm W1) := Lib.hid (by rw [← hW1]; exact H.out.alloc _)
        have hmlen : mm.length = m := HW.out.len
        have HMV := Lib.hid (wMove x HXO.out.arg r HW.out.ok mm HW.out.words (by omega) s g cc2 A2 HNE.out.2.2.2.1 W1 HW.out.regs HW.out.mem)
        have HPL := Lib.hid (wPlain x HXO.out.arg r HW.out.ok s W1 HW.out.regs)
        have HPO := Lib.hid (wPop r s W1 HW.out.regs)
        have hsc := HW.out.regs
        rw [hmlen] at HMV
        simp only [lineC] at b0 hW1 HMV HPL
        have e0 := b0.cell 0
        have e1 := b0.cell 1
        have e2 := b0.cell 2
        have e3 := b0.cell 3
        have e4 := b0.cell 4
        simp at e0 e1 e2 e3 e4
        have hwl := b0.lt
        have d0 := hsc.cell 0
        simp [RegL.cells] at d0
        have hsl := hsc.lt
        have HX := Lib.hid hx
        clear b0 hsc hx H hmlen hs hW3
        obtain ⟨F, hF⟩ : ∃ F : Int, (x.fn : Int) = F := ⟨_, rfl⟩
        simp only [hF] at hW1 HMV HPL e1 c1
        have HF2 := Lib.hid hF
        clear hF
        by_cases h10 : F = 10
        · have hf10 : x.fn = 10 := by have := HF2.out; omega
          rw [step_10 hf10] at hgo
          subst h10
          by_cases ha : r.a = 0
          · rw [if_neg (by simp [ha])] at hgo
            have ha1 : (r.a != 0) = false := by simp [ha]
            by_cases hst : x.target = stopT
            · rw [if_pos hst] at hgo
              try simp only at hgo
              have es : ((strB x.target).toList == [115, 116, 111, 112]) = true := by rw [ByteArray.toList_eq, hst]; rfl
              obtain rfl : R = (0, true, 0) := by rw [← HW.out.run]; exact hgo
              clear hgo hst
              generalize strB x.target = ST at *
              go_wp2
              go_ret3
              exact ⟨rfl, HW.out.below⟩
            · rw [if_neg hst] at hgo
              try simp only at hgo
              obtain ⟨j, hj1, -, hj3, hj4, hj5, hj6⟩ := run_jump HF.out HX.out hf10 hst r mm
              have hrun := own_atG HW.out.map HD.out HXO.out.target hj5
              rw [hj1] at hrun
              simp only [Option.getD_some] at hrun
              have es : ((strB x.target).toList == [115, 116, 111, 112]) = false := by
                rw [ByteArray.toList_eq]
                have : ¬ (strB x.target).data.toList = [115, 116, 111, 112] := by simpa [strB, stopT] using hst
                simpa using this
              have HGO : Hid (runS (ls.drop j) none r mm = R) := Lib.hid (hj6.symm.trans (hgo.symm.trans HW.out.run))
              have w1j : wrap64 ((j : Int) - 1) = (j : Int) - 1 := by unfold wrap64; have := HN.out; omega
              have hjn : j < n := by have := HN.out; omega
              clear hgo hst hj1 hj5 hj6
              generalize strB x.target = ST at *
              go_wp2
              go_roundw
              case rel =>
                refine ⟨j, r, mm, by omega, ?_, Lib.hid ⟨HW.out.below, HW.out.map, HW.out.regs, HW.out.mem, HW.out.ok, HW.out.words, HW.out.len, HGO.out⟩⟩
                go_num
              case measure => simp [intOf]; omega
          · rw [if_pos ha] at hgo
            try simp only at hgo
            have ha1 : (r.a != 0) = true := by simpa using ha
            have HGO := Lib.hid hgo
            clear hgo
            go_wp2_with first
              | (go_at_call 24; (with_reducible refine HPO.out.mono ?_); rintro e w4 ⟨rfl, hu, hb2⟩
                 have HU := Lib.hid hu
                 have HB2 := Lib.hid hb2
                 clear hu hb2)
            go_roundw
            case rel => exact ⟨k + 1, r.pop, mm, by omega, by go_num, Lib.hid (HW.out.step HNE.out.2.1 HNE.out.2.2.2.1 HNE.out.2.2.2.2.1 HU.out HB2.out ⟨HW.out.ok.2.1, HW.out.ok.2.2, HW.out.ok.2.2⟩ (HGO.out.symm.trans HW.out.run))⟩
            case measure => simp [intOf]; omega
        by_cases h7 : F = 7
        · have hf7 : x.fn = 7 := by have := HF2.out; omega
          rw [step_move (.inl hf7)] at hgo
          subst h7
          cases hmo : moveO x r mm with
          | none =>
            rw [hmo] at HMV hgo
            try simp only at hgo
            have HGO := Lib.hid hgo
            clear hgo hmo
            obtain rfl : R = (0, false, 4) := by rw [← HW.out.run]; exact HGO.out
            go_wp2_with first
              | (go_at_call 25; (with_reducible refine HMV.out.mono ?_); rintro e w4 ⟨rfl, hu, -, -⟩
                 have HU := Lib.hid hu
                 clear hu)
            go_ret3
            exact ⟨rfl, HW.out.below.trans (HU.out.below HNE.out.2.1 HNE.out.2.2.1 HW.out.below.size)⟩
          | some p =>
            obtain ⟨r', m'⟩ := p
            rw [hmo] at hgo
            try simp only at hgo
            obtain ⟨y1, y2, y3⟩ := moveO_ok HW.out.ok HW.out.words hmo
            rw [hmo] at HMV
            have HY1 := Lib.hid y1
            have HY2 := Lib.hid y2
            have HY3 := Lib.hid y3
            have HGO := Lib.hid hgo
            clear hgo hmo y1 y2 y3
            go_wp2_with first
              | (go_at_call 25; (with_reducible refine HMV.out.mono ?_); rintro e w4 ⟨rfl, hu, hb2, hm2'⟩
                 have HU := Lib.hid hu
                 have HB2 := Lib.hid hb2
                 have HM2 := Lib.hid hm2'
                 clear hu hb2 hm2')
            go_roundw
            case rel => exact ⟨k + 1, r', m', by omega, by go_num, Lib.hid (HW.out.moved HNE.out.2.1 HNE.out.2.2.1 HNE.out.2.2.2.2.1 HNE.out.2.2.2.2.2 HU.out HB2.out HM2.out HY1.out HY2.out HY3.out (HGO.out.symm.trans HW.out.run))⟩
            case measure => simp [intOf]; omega
        by_cases h13 : F = 13
        · have hf13 : x.fn = 13 := by have := HF2.out; omega
          rw [step_move (.inr (.inl hf13))] at hgo
          subst h13
          cases hmo : moveO x r mm with
          | none =>
            rw [hmo] at HMV hgo
            try simp only at hgo
            have HGO := Lib.hid hgo
            clear hgo hmo
            obtain rfl : R = (0, false, 4) := by rw [← HW.out.run]; exact HGO.out
            go_wp2_with first
              | (go_at_call 25; (with_reducible refine HMV.out.mono ?_); rintro e w4 ⟨rfl, hu, -, -⟩
                 have HU := Lib.hid hu
                 clear hu)
            go_ret3
            exact ⟨rfl, HW.out.below.trans (HU.out.below HNE.out.2.1 HNE.out.2.2.1 HW.out.below.size)⟩
          | some p =>
            obtain ⟨r', m'⟩ := p
            rw [hmo] at hgo
            try simp only at hgo
            obtain ⟨y1, y2, y3⟩ := moveO_ok HW.out.ok HW.out.words hmo
            rw [hmo] at HMV
            have HY1 := Lib.hid y1
            have HY2 := Lib.hid y2
            have HY3 := Lib.hid y3
            have HGO := Lib.hid hgo
            clear hgo hmo y1 y2 y3
            go_wp2_with first
              | (go_at_call 25; (with_reducible refine HMV.out.mono ?_); rintro e w4 ⟨rfl, hu, hb2, hm2'⟩
                 have HU := Lib.hid hu
                 have HB2 := Lib.hid hb2
                 have HM2 := Lib.hid hm2'
                 clear hu hb2 hm2')
            go_roundw
            case rel => exact ⟨k + 1, r', m', by omega, by go_num, Lib.hid (HW.out.moved HNE.out.2.1 HNE.out.2.2.1 HNE.out.2.2.2.2.1 HNE.out.2.2.2.2.2 HU.out HB2.out HM2.out HY1.out HY2.out HY3.out (HGO.out.symm.trans HW.out.run))⟩
            case measure => simp [intOf]; omega
        by_cases h3 : F = 3
        · have hf3 : x.fn = 3 := by have := HF2.out; omega
          rw [step_move (.inr (.inr hf3))] at hgo
          subst h3
          cases hmo : moveO x r mm with
          | none =>
            rw [hmo] at HMV hgo
            try simp only at hgo
            have HGO := Lib.hid hgo
            clear hgo hmo
            obtain rfl : R = (0, false, 4) := by rw [← HW.out.run]; exact HGO.out
            go_wp2_with first
              | (go_at_call 25; (with_reducible refine HMV.out.mono ?_); rintro e w4 ⟨rfl, hu, -, -⟩
                 have HU := Lib.hid hu
                 clear hu)
            go_ret3
            exact ⟨rfl, HW.out.below.trans (HU.out.below HNE.out.2.1 HNE.out.2.2.1 HW.out.below.size)⟩
          | some p =>
            obtain ⟨r', m'⟩ := p
            rw [hmo] at hgo
            try simp only at hgo
            obtain ⟨y1, y2, y3⟩ := moveO_ok HW.out.ok HW.out.words hmo
            rw [hmo] at HMV
            have HY1 := Lib.hid y1
            have HY2 := Lib.hid y2
            have HY3 := Lib.hid y3
            have HGO := Lib.hid hgo
            clear hgo hmo y1 y2 y3
            go_wp2_with first
              | (go_at_call 25; (with_reducible refine HMV.out.mono ?_); rintro e w4 ⟨rfl, hu, hb2, hm2'⟩
                 have HU := Lib.hid hu
                 have HB2 := Lib.hid hb2
                 have HM2 := Lib.hid hm2'
                 clear hu hb2 hm2')
            go_roundw
            case rel => exact ⟨k + 1, r', m', by omega, by go_num, Lib.hid (HW.out.moved HNE.out.2.1 HNE.out.2.2.1 HNE.out.2.2.2.2.1 HNE.out.2.2.2.2.2 HU.out HB2.out HM2.out HY1.out HY2.out HY3.out (HGO.out.symm.trans HW.out.run))⟩
            case measure => simp [intOf]; omega
        rw [step_plain (by have := HF2.out; omega) (by have := HF2.out; omega)] at hgo
        try simp only at hgo
        have HGO := Lib.hid hgo
        have HPK := Lib.hid (plainO_ok HXO.out.arg HW.out.ok)
        clear hgo
        go_wp2_with first
          | (go_at_call 26; (with_reducible refine HPL.out.mono ?_); rintro e w4 ⟨rfl, hu, hb2⟩
             have HU := Lib.hid hu
             have HB2 := Lib.hid hb2
             clear hu hb2)
        go_roundw
        case rel => exact ⟨k + 1, plainO x r, mm, by omega, by go_num, Lib.hid (HW.out.step HNE.out.2.1 HNE.out.2.2.2.1 HNE.out.2.2.2.2.1 HU.out HB2.out HPK.out (HGO.out.symm.trans HW.out.run))⟩
        case measure => simp [intOf]; omega
      · have hltI : ¬ (k : Int) < n := by omega
        obtain rfl : n = k := by omega
        have he := run_end (ls := ls) (k := n) (by rw [HN.out]; exact Nat.le_refl _) r mm
        rw [H.out.run] at he
        have hb := H.out.regs
        have HBl := Lib.hid H.out.below
        obtain ⟨ra, rb, rc, re⟩ := r
        simp only [RegL.cells] at hb
        have d0 := hb.cell 0
        have d1 := hb.cell 1
        have d2 := hb.cell 2
        have d3 := hb.cell 3
        simp at d0 d1 d2 d3
        have hsl := hb.lt
        simp only at he
        subst he
        clear H hb
        cases re
        · go_wp2
          go_ret3
          exact ⟨rfl, HBl.out⟩
        · go_wp2
          go_ret3
          exact ⟨rfl, HBl.out⟩
  · have HF := Lib.hid hf
    obtain rfl : R = (0, false, faultE ls) := by rw [HQ2.out, if_pos hf]
    have hE : (faultE ls != 0) = true := by simpa using hf
    clear hf HQ2
    go_wp2_with first
      | (go_at_call 23; (with_reducible refine HC.out.mono ?_); rintro e w1 ⟨hb1, hh⟩
         obtain rfl : e = .returned (.tuple #[.map none, .int .i64 (faultE ls)]) := by
           rcases hh with h | h
           · exact absurd h.1 HF.out
           · exact h.2
         have HB1 := Lib.hid hb1
         clear hh hb1)
    go_ret3
    exact ⟨rfl, HB1.out⟩
end Go.Proofs.YtbefmlioampgcaaGreatDoor
