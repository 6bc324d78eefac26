/- Run of the reference, walked. -/
import Derived.Test.YtbefmlioampgcaaDoorHCC
import Derived.Test.YtbefmlioampgcaaDoorHK10
import Derived.Test.YtbefmlioampgcaaDoorHCF
namespace Go.Proofs.YtbefmlioampgcaaDoor
open Go.RowKit
set_option linter.unusedVariables false
set_option linter.unusedSimpArgs false

/-- The state of the reference's run ahead of line k. -/
structure RunOf (ls : List LineL) (w : World) (s g : Nat) (A : Option Addr) (n0 : Nat) (R : Int × Bool × Int) (k : Nat) (r : RegL) (m : List Int) (wr : World) : Prop where
  below : Below w.heap.size w wr
  regs : Blk wr s 73 r.cells
  mem : MemAt wr g A m
  ok : r.Ok
  words : ∀ v ∈ m, is32 v
  len : m.length = n0
  run : runS (ls.drop k) none r m = R
section
variable {ls : List LineL} {w wr w' : World} {s g n0 k k' : Nat} {A : Option Addr} {R : Int × Bool × Int} {r r' : RegL} {m m' : List Int}
theorem RunOf.alloc (h : RunOf ls w s g A n0 R k r m wr) (o : Obj) : RunOf ls w s g A n0 R k r m (wr.alloc o) :=
  ⟨h.below.alloc h.below.size o, h.regs.alloc o, fun hm => ⟨(h.mem hm).1, (h.mem hm).2.alloc o⟩, h.ok, h.words, h.len, h.run⟩
theorem RunOf.drew (h : RunOf ls w s g A n0 R k r m wr) : RunOf ls w s g A n0 R k r m wr.drew := ⟨h.below.drew, h.regs.drew, h.mem, h.ok, h.words, h.len, h.run⟩
theorem RunOf.step (h : RunOf ls w s g A n0 R k r m wr) (h1 : w.heap.size ≤ s) (h2 : s ≠ g) (hu : UpdB s wr w') (hb : Blk w' s 73 r'.cells) (hok : r'.Ok) (hrun : runS (ls.drop k') none r' m = R) : RunOf ls w s g A n0 R k' r' m w' :=
  ⟨h.below.trans ((hu.below h.regs.lt).mono h1), hb, h.mem.upd hu h2, hok, h.words, h.len, hrun⟩
theorem RunOf.moved (h : RunOf ls w s g A n0 R k r m wr) (h1 : w.heap.size ≤ s) (h1g : w.heap.size ≤ g) (hu : Upd2 s g wr w') (hb : Blk w' s 73 r'.cells) (hm : MemAt w' g A m') (hok : r'.Ok) (hw : ∀ v ∈ m', is32 v) (hl : m'.length = m.length)
    (hrun : runS (ls.drop k') none r' m' = R) : RunOf ls w s g A n0 R k' r' m' w' :=
  ⟨h.below.trans (hu.below h1 h1g h.below.size), hb, hm, hok, hw, hl.trans h.len, hrun⟩
end
theorem own_mem0 {w : World} {base : Nat} {A : Option Addr} {c m : Nat} {ws : List Int} (hm : ws.length = m) (h : w.ownsRow base 21 1 (.slice A m c) m (wordsC ws)) (hb : base ≤ w.heap.size) :
    ∃ g, MemAt w g A ws ∧ base ≤ g ∧ g ≠ w.heap.size := by
  subst hm
  rcases Nat.eq_zero_or_pos ws.length with h0 | h0
  · exact ⟨w.heap.size + 1, fun h => by omega, by omega, by omega⟩
  · obtain ⟨g, cap, hv, hle, hlt⟩ := h.form h0
    injection hv with hA
    subst hA
    exact ⟨g, fun _ => ⟨rfl, RowW.of_own h⟩, hle, by omega⟩
theorem upd4 {w W : World} (h : Below w.heap.size w W) (g : Nat) (q : RegL) : UpdB g w ((((W.setCell ⟨g, 0, none⟩ (.int .i32 q.a)).setCell ⟨g, 1, none⟩ (.int .i32 q.b)).setCell ⟨g, 2, none⟩ (.int .i32 q.c)).setCell ⟨g, 3, none⟩ (.bool q.e)) := ((((UpdB.of_below h).set1).set1).set1).set1
theorem plain_1 {x : LineL} (h : x.fn = 4) (r : RegL) : plainO x r = r.push x.arg := by unfold plainO; rw [if_pos h]
theorem plain_2 {x : LineL} (h : x.fn = 1) (r : RegL) : plainO x r = r.push (wrap32 (4 * x.arg)) := by unfold plainO; rw [if_neg (by omega), if_pos h]
theorem plain_3 {x : LineL} (h : x.fn = 8) (r : RegL) : plainO x r = ⟨wrap32 (r.a + x.arg), r.b, r.c, r.e || (wrap32 (r.a + x.arg) != r.a + x.arg)⟩ := by unfold plainO; rw [if_neg (by omega), if_neg (by omega), if_pos h]
theorem plain_4 {x : LineL} (h : x.fn = 12) (r : RegL) : plainO x r = ⟨truthL (r.a == x.arg), r.b, r.c, r.e⟩ := by unfold plainO; rw [if_neg (by omega), if_neg (by omega), if_neg (by omega), if_pos h]
theorem plain_5 {x : LineL} (h1 : ¬ x.fn = 4) (h2 : ¬ x.fn = 1) (h3 : ¬ x.fn = 8) (h4 : ¬ x.fn = 12) (r : RegL) : plainO x r = (opR r x.arg).getD r := by unfold plainO; rw [if_neg h1, if_neg h2, if_neg h3, if_neg h4]
theorem nextL_at {ls : List LineL} {k j : Nat} {t : List UInt8} (h : atL (ls.drop k) t = some (j - k)) (hk : k ≤ j) : nextL ls k t = (j : Int) := by
  unfold nextL
  rw [h]
  simp only
  omega
theorem moveO_in {x : LineL} {r : RegL} {m : List Int} {k : Nat} {v : Int} (hk : wordK x r = k) (hv : m[k]? = some v) : moveO x r m = if x.fn = 7 then some (r.push v, m) else if x.fn = 3 then some (⟨v, r.b, r.c, r.e⟩, m) else some (r.pop, m.set k r.a) := by
  have hkm := (List.getElem?_eq_some_iff.1 hv).1
  unfold moveO
  rw [hk, if_neg (by omega), Int.toNat_natCast, List.getD_eq_getElem?_getD, hv]
  rfl
theorem moveO_out {x : LineL} {r : RegL} {m : List Int} (h : wordK x r < 0 ∨ (m.length : Int) ≤ wordK x r) : moveO x r m = none := by unfold moveO; rw [if_pos h]

set_option maxRecDepth 100000 in
set_option maxHeartbeats 16000000 in
theorem rRun25 (ls : List LineL) (hok : ∀ x ∈ ls, LOk x) (A : Option Addr) (n c : Nat) (hn : n ≤ 9223372036854775807) (ws : List Int) (hws : ∀ v ∈ ws, is32 v) (Aw : Option Addr) (m cw : Nat) (hm : ws.length = m) (hm2 : m ≤ 9223372036854775807) (w : World)
    (hr : Reads w w.heap.size 5 A n (linesL ls)) (hrw : Reads w w.heap.size 1 Aw m (wordsC ws)) :
    Calls Tryd.prog 9 #[.slice A n c, .slice Aw m cw] w (RetV (runV (runQ ls ws)) w) := by
  have HR := Lib.hid hr
  have HRW := Lib.hid hrw
  have HK := Lib.hid hok
  have HWS := Lib.hid hws
  have HN := Lib.hid (lines_len hr)
  have HM := Lib.hid hm
  have HQ : Hid (runQ ls ws = if 4096 < ls.length ∨ 65536 < ws.length then (0, false, 3) else if faultE ls ≠ 0 then (0, false, faultE ls) else runS ls none ⟨0, 0, 0, false⟩ ws) := Lib.hid rfl
  have HFQ : Hid (faultQ ls m = if 4096 < ls.length ∨ 65536 < m then 3 else faultE ls) := Lib.hid rfl
  obtain ⟨i0, hi0, hz0, hz1, hz2⟩ := info_parts i32_info
  have HC := Lib.hid (rFault ls hok A n c hn Aw m cw hm2 w hr)
  generalize runQ ls ws = R at *
  generalize hfq : faultQ ls m = fq at *
  clear hr hok hrw hws hm hfq
  go_enter Tryd.func9, Tryd.ntmps9
  by_cases hf : fq = 0
  · obtain ⟨h12, hf0⟩ : ¬ (4096 < ls.length ∨ 65536 < m) ∧ faultE ls = 0 := by
      have := HFQ.out
      by_cases h12 : 4096 < ls.length ∨ 65536 < m
      · rw [if_pos h12] at this; omega
      · rw [if_neg h12] at this; exact ⟨h12, by omega⟩
    have HF := Lib.hid hf0
    have h1 : n ≤ 4096 := by have := HN.out; omega
    have h2 : m ≤ 65536 := by omega
    have HQ3 : Hid (R = runS ls none ⟨0, 0, 0, false⟩ ws) := Lib.hid (by rw [HQ.out, if_neg (by rw [HM.out]; exact h12), if_neg (by rw [hf0]; simp)])
    clear HQ HFQ hf0 h12
    subst hf
    have hn0 : ∀ w1 : World, w1.ownsRow w.heap.size 21 1 (.slice none 0 0) 0 [] := fun w1 => ⟨rfl, .inl ⟨rfl, rfl⟩⟩
    have HN0 := Lib.hid hn0
    clear hn0
    go_wp2_with first
      | (go_at_call 24; (with_reducible refine HC.out.mono ?_); rintro e w1 ⟨rfl, hb1⟩
         have HB1 := Lib.hid hb1
         have hs1 := hb1.size
         clear hb1)
      | (at_builtin; refine wpList_append_any w1 rfl (.tmp 21) (.tmp 22) 23 rfl w.heap.size 21 i0 _ 1 4 Tryd.underlying23 hi0 hz0 hz1 hz2 rfl (by decide) _ 0 [] rfl (HN0.out w1) w.heap.size Aw m cw (wordsC ws) rfl (HRW.out.below HB1.out) (words_one ws) (by unfold maxLen; omega) (by omega) hs1 ?_; intro v' w2 hown hgr hat
         have hown2 : w2.ownsRow w.heap.size 21 1 v' m (wordsC ws) := by simpa using hown
         obtain ⟨A2, cc2, rfl⟩ := own_form hown2
         have hgr2 : w1.grownBy w2 none := hgr
         have hb2 : Below w.heap.size w w2 := HB1.out.grown hgr2 hs1 (fun k e => by cases e)
         obtain ⟨g, hmem, hg1, hg2⟩ := own_mem0 HM.out hown2 hb2.size
         obtain ⟨s, hs⟩ : ∃ s, w2.heap.size = s := ⟨_, rfl⟩
         have HRA : Hid (RunOf ls w s g A2 m R 0 ⟨0, 0, 0, false⟩ ws (w2.alloc (.cells #[.int .i32 0, .int .i32 0, .int .i32 0, .bool false] 73))) := Lib.hid (by
           subst hs
           exact ⟨hb2.alloc hb2.size _, Blk.new w2 _ _, fun h => ⟨(hmem h).1, (hmem h).2.alloc _⟩, ⟨is32_0, is32_0, is32_0⟩, HWS.out, HM.out, by rw [List.drop_zero]; exact HQ3.out.symm⟩)
         have HNE : Hid (w.heap.size ≤ s ∧ w.heap.size ≤ g ∧ s ≠ g) := Lib.hid ⟨by rw [← hs]; exact hb2.size, hg1, by rw [← hs]; omega⟩
         clear hown hgr hat hown2 hgr2 hb2 hmem hg1 hg2)
    clear HB1 HC hs1 HQ3 hi0 hz0 hz1 hz2 HN0
    go_loopw [10] (fun i wr => ∃ (k : Nat) (r : RegL) (mm : List Int), k ≤ n ∧ i = .int .i64 k ∧ Hid (RunOf ls w s g A2 m R k r mm wr)) (fun i _ => n - (intOf i).toNat)
    case atStart => exact ⟨0, _, _, by omega, rfl, HRA⟩
    case round =>
      clear HRA
      obtain ⟨k, r, mm, hk, rfl, H⟩ := hrel
      by_cases hlt : k < n
      · have hltI : (k : Int) < n := by omega
        obtain ⟨b, off, x, rfl, hb, hx, c0, c1, c2, c3, c4⟩ := lines_at (HR.out.below H.out.below) hlt
        have hbs : b < wr.heap.size := by have := H.out.below.size; omega
        have HXO := Lib.hid (HK.out x (List.mem_of_getElem? hx))
        have hgo := run_go hx r mm
        obtain ⟨W1, hW1⟩ : ∃ W, wr.alloc (.cells (lineC x) 51) = W := ⟨_, rfl⟩
        have b0 : Blk W1 wr.heap.size 51 (lineC x) := by rw [← hW1]; exact Blk.new wr _ _
        have HW : Hid (RunOf ls w s g A2 m R k r mm W1) := Lib.hid (by rw [← hW1]; exact H.out.alloc _)
        have hmlen : mm.length = m := HW.out.len
        have HHR : Hid (Reads W1 W1.heap.size 5 (some ⟨b, off, none⟩) n (linesL ls)) := Lib.hid ((HR.out.below HW.out.below).more HW.out.below.size)
        have hsc := HW.out.regs
        simp only [lineC] at b0 hW1
        have e0 := b0.cell 0
        have e1 := b0.cell 1
        have e2 := b0.cell 2
        have e3 := b0.cell 3
        have e4 := b0.cell 4
        simp at e0 e1 e2 e3 e4
        have hwl := b0.lt
        have f0 := hsc.frozen 0
        have f1 := hsc.frozen 1
        have f2 := hsc.frozen 2
        have f3 := hsc.frozen 3
        simp only [RegL.cells] at hsc
        have d0 := hsc.cell 0
        have d1 := hsc.cell 1
        have d2 := hsc.cell 2
        have d3 := hsc.cell 3
        simp at d0 d1 d2 d3
        have hsl := hsc.lt
        have HX := Lib.hid hx
        clear b0 hsc hx H hs
        obtain ⟨F, hF⟩ : ∃ F : Int, (x.fn : Int) = F := ⟨_, rfl⟩
        simp only [hF] at hW1 e1 c1
        have HF2 := Lib.hid hF
        clear hF
        by_cases h4 : F = 4
        · have hfn : x.fn = 4 := by have := HF2.out; omega
          rw [step_plain (by omega) (by omega)] at hgo
          try simp only at hgo
          have hpk := plainO_ok (x := x) HXO.out.arg HW.out.ok
          rw [plain_1 hfn] at hgo hpk
          have HGO := Lib.hid hgo
          have HPK := Lib.hid hpk
          have HPU := Lib.hid (rPush r x.arg W1)
          simp only [RegL.cells] at HPU
          clear hgo hfn hpk
          subst h4
          go_wp2_with first
            | (go_at_call 25; (with_reducible refine HPU.out.mono ?_); rintro e w4 ⟨rfl, hb4⟩
               have HB4 := Lib.hid hb4
               have F4 := HW.out.regs.below hb4 HW.out.regs.lt
               have HF4 := Lib.hid F4
               have u0 := F4.frozen 0
               have u1 := F4.frozen 1
               have u2 := F4.frozen 2
               have u3 := F4.frozen 3
               simp only [RegL.cells] at F4
               have y0 := F4.cell 0
               have y1 := F4.cell 1
               have y2 := F4.cell 2
               have y3 := F4.cell 3
               simp at y0 y1 y2 y3
               have hl4 := F4.lt
               clear hb4 F4)
          go_roundw
          case rel => exact ⟨k + 1, r.push x.arg, mm, by omega, by go_num, Lib.hid (HW.out.step (r' := r.push x.arg) HNE.out.1 HNE.out.2.2 ((((UpdB.of_below HB4.out).set1).set1).set1).set1 ((((HF4.out.set_ 0 _).set_ 1 _).set_ 2 _).set_ 3 _) HPK.out (HGO.out.symm.trans HW.out.run))⟩
          case measure => simp [intOf]; omega
        by_cases h1 : F = 1
        · have hfn : x.fn = 1 := by have := HF2.out; omega
          rw [step_plain (by omega) (by omega)] at hgo
          try simp only at hgo
          have hpk := plainO_ok (x := x) HXO.out.arg HW.out.ok
          rw [plain_2 hfn] at hgo hpk
          have HGO := Lib.hid hgo
          have HPK := Lib.hid hpk
          have HPU := Lib.hid (rPush r (wrap32 (4 * x.arg)) W1)
          simp only [RegL.cells] at HPU
          clear hgo hfn hpk
          subst h1
          go_wp2_with first
            | (go_at_call 25; (with_reducible refine HPU.out.mono ?_); rintro e w4 ⟨rfl, hb4⟩
               have HB4 := Lib.hid hb4
               have F4 := HW.out.regs.below hb4 HW.out.regs.lt
               have HF4 := Lib.hid F4
               have u0 := F4.frozen 0
               have u1 := F4.frozen 1
               have u2 := F4.frozen 2
               have u3 := F4.frozen 3
               simp only [RegL.cells] at F4
               have y0 := F4.cell 0
               have y1 := F4.cell 1
               have y2 := F4.cell 2
               have y3 := F4.cell 3
               simp at y0 y1 y2 y3
               have hl4 := F4.lt
               clear hb4 F4)
          go_roundw
          case rel => exact ⟨k + 1, r.push (wrap32 (4 * x.arg)), mm, by omega, by go_num, Lib.hid (HW.out.step (r' := r.push (wrap32 (4 * x.arg))) HNE.out.1 HNE.out.2.2 ((((UpdB.of_below HB4.out).set1).set1).set1).set1 ((((HF4.out.set_ 0 _).set_ 1 _).set_ 2 _).set_ 3 _) HPK.out (HGO.out.symm.trans HW.out.run))⟩
          case measure => simp [intOf]; omega
        by_cases h8 : F = 8
        · have hfn : x.fn = 8 := by have := HF2.out; omega
          rw [step_plain (by omega) (by omega)] at hgo
          try simp only at hgo
          have hpk := plainO_ok (x := x) HXO.out.arg HW.out.ok
          rw [plain_3 hfn] at hgo hpk
          have HGO := Lib.hid hgo
          have HPK := Lib.hid hpk
          have HAD := Lib.hid (rAdd r.a x.arg W1 HW.out.ok.1 HXO.out.arg)
          clear hgo hfn hpk
          subst h8
          cases hre : r.e
          all_goals
            rw [hre] at d3
            go_wp2_with first
              | (go_at_call 26; (with_reducible refine HAD.out.mono ?_); unfold addF rv; rintro e w4 ⟨rfl, rfl⟩)
            go_roundw
            case rel =>
              refine ⟨k + 1, _, mm, by omega, by go_num, Lib.hid (HW.out.step (r' := ⟨wrap32 (r.a + x.arg), r.b, r.c, r.e || (wrap32 (r.a + x.arg) != r.a + x.arg)⟩) HNE.out.1 HNE.out.2.2 (((UpdB.refl s W1).set1).set1) (((HW.out.regs.set_ 0 _).set_ 3 _).eq_ ?_) HPK.out (HGO.out.symm.trans HW.out.run))⟩
              simp [RegL.cells, hre]
            case measure => simp [intOf]; omega
        by_cases h12 : F = 12
        · have hfn : x.fn = 12 := by have := HF2.out; omega
          rw [step_plain (by omega) (by omega)] at hgo
          try simp only at hgo
          have hpk := plainO_ok (x := x) HXO.out.arg HW.out.ok
          rw [plain_4 hfn] at hgo hpk
          have HGO := Lib.hid hgo
          have HPK := Lib.hid hpk
          clear hgo hfn hpk
          subst h12
          go_wp2_with first
            | (go_at_call 27; refine (rTruth _ _).mono ?_; rintro e w4 ⟨rfl, rfl⟩)
          go_roundw
          case rel => exact ⟨k + 1, _, mm, by omega, by go_num, Lib.hid (HW.out.step (r' := ⟨truthL (r.a == x.arg), r.b, r.c, r.e⟩) HNE.out.1 HNE.out.2.2 ((UpdB.refl s W1).set1) (HW.out.regs.set_ 0 _) HPK.out (HGO.out.symm.trans HW.out.run))⟩
          case measure => simp [intOf]; omega
        by_cases h10 : F = 10
        · have hf10 : x.fn = 10 := by have := HF2.out; omega
          rw [step_10 hf10] at hgo
          subst h10
          by_cases ha : r.a = 0
          · rw [if_neg (by simp [ha])] at hgo
            have ha1 : (r.a != 0) = false := by simp [ha]
            by_cases hst : x.target = stopT
            · rw [if_pos hst] at hgo
              try simp only at hgo
              have es : ((strB x.target).toList == [115, 116, 111, 112]) = true := by rw [ByteArray.toList_eq, hst]; rfl
              obtain rfl : R = (0, true, 0) := by rw [← HW.out.run]; exact hgo
              clear hgo hst
              generalize strB x.target = ST at *
              go_wp2
              go_ret3
              exact ⟨rfl, HW.out.below⟩
            · rw [if_neg hst] at hgo
              try simp only at hgo
              obtain ⟨j, -, hj2, hj3, hj4, hj5, hj6⟩ := run_jump HF.out HX.out hf10 hst r mm
              have HAT : Hid (Calls Tryd.prog 30 #[.slice (some ⟨b, off, none⟩) n c, .int .i64 ((k : Int) + 1), .string (strB x.target)] W1 (RetQ (.int .i64 (j : Int)) W1)) := Lib.hid (by
                have h1 := rAt ls (some ⟨b, off, none⟩) n c (by omega) (k + 1) x.target _ rfl W1 HHR.out
                rwa [show (((k + 1 : Nat)) : Int) = (k : Int) + 1 by omega, nextL_at hj2 (by omega)] at h1)
              have es : ((strB x.target).toList == [115, 116, 111, 112]) = false := by
                rw [ByteArray.toList_eq]
                have : ¬ (strB x.target).data.toList = [115, 116, 111, 112] := by simpa [strB, stopT] using hst
                simpa using this
              have HGO : Hid (runS (ls.drop j) none r mm = R) := Lib.hid (hj6.symm.trans (hgo.symm.trans HW.out.run))
              have hjn : j < n := by have := HN.out; omega
              clear hgo hst hj2 hj5 hj6
              generalize strB x.target = ST at *
              go_wp2_with first
                | (go_at_call 30; (with_reducible refine HAT.out.mono ?_); rintro e w4 ⟨rfl, rfl⟩)
              go_roundw
              case rel => exact ⟨j, r, mm, by omega, by go_num, Lib.hid ⟨HW.out.below, HW.out.regs, HW.out.mem, HW.out.ok, HW.out.words, HW.out.len, HGO.out⟩⟩
              case measure => simp [intOf]; omega
          · rw [if_pos ha] at hgo
            try simp only at hgo
            have ha1 : (r.a != 0) = true := by simpa using ha
            have HGO := Lib.hid hgo
            have HPO := Lib.hid (rPop r W1)
            simp only [RegL.cells] at HPO
            clear hgo
            go_wp2_with first
              | (go_at_call 29; (with_reducible refine HPO.out.mono ?_); rintro e w4 ⟨rfl, hb4⟩
                 have HB4 := Lib.hid hb4
                 have F4 := HW.out.regs.below hb4 HW.out.regs.lt
                 have HF4 := Lib.hid F4
                 have u0 := F4.frozen 0
                 have u1 := F4.frozen 1
                 have u2 := F4.frozen 2
                 have u3 := F4.frozen 3
                 simp only [RegL.cells] at F4
                 have y0 := F4.cell 0
                 have y1 := F4.cell 1
                 have y2 := F4.cell 2
                 have y3 := F4.cell 3
                 simp at y0 y1 y2 y3
                 have hl4 := F4.lt
                 clear hb4 F4)
            go_roundw
            case rel => exact ⟨k + 1, r.pop, mm, by omega, by go_num, Lib.hid (HW.out.step (r' := r.pop) HNE.out.1 HNE.out.2.2 ((((UpdB.of_below HB4.out).set1).set1).set1).set1 ((((HF4.out.set_ 0 _).set_ 1 _).set_ 2 _).set_ 3 _) ⟨HW.out.ok.2.1, HW.out.ok.2.2, HW.out.ok.2.2⟩ (HGO.out.symm.trans HW.out.run))⟩
            case measure => simp [intOf]; omega
        by_cases h7 : F = 7
        · have hfn : x.fn = 7 := by have := HF2.out; omega
          rw [step_move (by omega)] at hgo
          obtain ⟨K, hK⟩ : ∃ K, wordK x r = K := ⟨_, rfl⟩
          have hKe : x.arg = K := by rw [← hK]; unfold wordK; rw [if_neg (by omega)]
          have hK32 : is32 K := by rw [← hKe]; exact HXO.out.arg
          have HK64 := Lib.hid (w64 hK32)
          have HKE := Lib.hid hK
          clear hK
          subst h7
          rw [hKe] at e2 c2 hW1
          by_cases hr1 : K < 0
          · rw [moveO_out (by rw [HKE.out, hmlen]; exact .inl hr1)] at hgo
            try simp only at hgo
            obtain rfl : R = (0, false, 4) := by rw [← HW.out.run]; exact hgo
            clear hgo hKe
            have hK64 := HK64.out
            go_wp2
            go_ret3
            exact ⟨rfl, HW.out.below⟩
          by_cases hr2 : (m : Int) ≤ K
          · rw [moveO_out (by rw [HKE.out, hmlen]; exact .inr hr2)] at hgo
            try simp only at hgo
            obtain rfl : R = (0, false, 4) := by rw [← HW.out.run]; exact hgo
            clear hgo hKe
            have hK64 := HK64.out
            go_wp2
            go_ret3
            exact ⟨rfl, HW.out.below⟩
          obtain ⟨kk, hkk⟩ : ∃ kk : Nat, K = kk := ⟨K.toNat, by omega⟩
          subst hkk
          have hkm : kk < mm.length := by omega
          obtain ⟨v, hv⟩ : ∃ v, mm[kk]? = some v := ⟨_, List.getElem?_eq_getElem hkm⟩
          have hv32 := HW.out.words v (List.mem_of_getElem? hv)
          obtain ⟨rfl, hrow⟩ := HW.out.mem (by omega)
          have hkc := hrow.cell (wordsC_get hv)
          have hkf := hrow.frozen kk
          have hgl := hrow.lt
          have HROW := Lib.hid hrow
          have hmo := moveO_in HKE.out hv
          rw [if_pos hfn] at hmo
          obtain ⟨y1, y2, y3⟩ := moveO_ok HW.out.ok HW.out.words hmo
          rw [hmo] at hgo
          try simp only at hgo
          have HGO := Lib.hid hgo
          have HY1 := Lib.hid y1
          have HY2 := Lib.hid y2
          have HY3 := Lib.hid y3
          have hmk : (kk : Int) < (m : Int) := by omega
          have hkmN : kk < m := by omega
          clear hgo hmo hrow y1 y2 y3 hKe hfn
          have HPU := Lib.hid (rPush r v W1.drew)
          simp only [RegL.cells] at HPU
          go_wp2
          refine wp_region_quiet_tail 5 (by kernel_rfl) (by kernel_rfl) ?_
          simp only [List.take_succ_cons, List.take_zero, List.drop_succ_cons, List.drop_zero]
          repeat go_big_quiet_step (fail)
          refine wpQuiet_nil ?_
          go_wp2_with first
            | (go_at_call 25; (with_reducible refine HPU.out.mono ?_); rintro e w4 ⟨rfl, hb4⟩
               have HB4 := Lib.hid hb4
               have F4 := HW.out.regs.drew.below hb4 HW.out.regs.lt
               have HF4 := Lib.hid F4
               have u0 := F4.frozen 0
               have u1 := F4.frozen 1
               have u2 := F4.frozen 2
               have u3 := F4.frozen 3
               simp only [RegL.cells] at F4
               have y0 := F4.cell 0
               have y1 := F4.cell 1
               have y2 := F4.cell 2
               have y3 := F4.cell 3
               simp at y0 y1 y2 y3
               have hl4 := F4.lt
               clear hb4 F4)
          go_roundw
          case rel => exact ⟨k + 1, r.push v, mm, by omega, by go_num, Lib.hid (HW.out.drew.step (r' := r.push v) HNE.out.1 HNE.out.2.2 ((((UpdB.of_below HB4.out).set1).set1).set1).set1 ((((HF4.out.set_ 0 _).set_ 1 _).set_ 2 _).set_ 3 _) HY1.out (HGO.out.symm.trans HW.out.run))⟩
          case measure => simp [intOf]; omega
        by_cases h13 : F = 13
        · have hfn : x.fn = 13 := by have := HF2.out; omega
          rw [step_move (by omega)] at hgo
          obtain ⟨K, hK⟩ : ∃ K, wordK x r = K := ⟨_, rfl⟩
          have hKe : x.arg = K := by rw [← hK]; unfold wordK; rw [if_neg (by omega)]
          have hK32 : is32 K := by rw [← hKe]; exact HXO.out.arg
          have HK64 := Lib.hid (w64 hK32)
          have HKE := Lib.hid hK
          clear hK
          subst h13
          rw [hKe] at e2 c2 hW1
          by_cases hr1 : K < 0
          · rw [moveO_out (by rw [HKE.out, hmlen]; exact .inl hr1)] at hgo
            try simp only at hgo
            obtain rfl : R = (0, false, 4) := by rw [← HW.out.run]; exact hgo
            clear hgo hKe
            have hK64 := HK64.out
            go_wp2
            go_ret3
            exact ⟨rfl, HW.out.below⟩
          by_cases hr2 : (m : Int) ≤ K
          · rw [moveO_out (by rw [HKE.out, hmlen]; exact .inr hr2)] at hgo
            try simp only at hgo
            obtain rfl : R = (0, false, 4) := by rw [← HW.out.run]; exact hgo
            clear hgo hKe
            have hK64 := HK64.out
            go_wp2
            go_ret3
            exact ⟨rfl, HW.out.below⟩
          obtain ⟨kk, hkk⟩ : ∃ kk : Nat, K = kk := ⟨K.toNat, by omega⟩
          subst hkk
          have hkm : kk < mm.length := by omega
          obtain ⟨v, hv⟩ : ∃ v, mm[kk]? = some v := ⟨_, List.getElem?_eq_getElem hkm⟩
          have hv32 := HW.out.words v (List.mem_of_getElem? hv)
          obtain ⟨rfl, hrow⟩ := HW.out.mem (by omega)
          have hkc := hrow.cell (wordsC_get hv)
          have hkf := hrow.frozen kk
          have hgl := hrow.lt
          have HROW := Lib.hid hrow
          have hmo := moveO_in HKE.out hv
          rw [if_neg (by omega), if_neg (by omega)] at hmo
          obtain ⟨y1, y2, y3⟩ := moveO_ok HW.out.ok HW.out.words hmo
          rw [hmo] at hgo
          try simp only at hgo
          have HGO := Lib.hid hgo
          have HY1 := Lib.hid y1
          have HY2 := Lib.hid y2
          have HY3 := Lib.hid y3
          have hmk : (kk : Int) < (m : Int) := by omega
          have hkmN : kk < m := by omega
          clear hgo hmo hrow y1 y2 y3 hKe hfn
          have hsg := HNE.out.2.2
          have HPO := Lib.hid (rPop r (W1.setCell ⟨g, kk, none⟩ (.int .i32 r.a)))
          simp only [RegL.cells] at HPO
          have HW13 : Hid (Blk (W1.setCell ⟨g, kk, none⟩ (.int .i32 r.a)) s 73 r.cells) := Lib.hid (HW.out.regs.far hsg _)
          go_wp2_with first
            | (go_at_call 29; (with_reducible refine HPO.out.mono ?_); rintro e w4 ⟨rfl, hb4⟩
               have HB4 := Lib.hid hb4
               have F4 := HW13.out.below hb4 HW13.out.lt
               have HF4 := Lib.hid F4
               have u0 := F4.frozen 0
               have u1 := F4.frozen 1
               have u2 := F4.frozen 2
               have u3 := F4.frozen 3
               simp only [RegL.cells] at F4
               have y0 := F4.cell 0
               have y1 := F4.cell 1
               have y2 := F4.cell 2
               have y3 := F4.cell 3
               simp at y0 y1 y2 y3
               have hl4 := F4.lt
               clear hb4 F4)
          go_roundw
          case rel =>
            have hm2 : MemAt (W1.setCell ⟨g, kk, none⟩ (.int .i32 r.a)) g (some ⟨g, 0, none⟩) (mm.set kk r.a) := fun hm => ⟨rfl, by rw [wordsC_set]; exact HROW.out.set kk _⟩
            have hu4 := upd4 HB4.out s r.pop
            exact ⟨k + 1, r.pop, mm.set kk r.a, by omega, by go_num, Lib.hid (HW.out.moved (r' := r.pop) HNE.out.1 HNE.out.2.1 ((Upd2.of2 (UpdB.set _ _ _)).trans (Upd2.of hu4)) ((((HF4.out.set_ 0 _).set_ 1 _).set_ 2 _).set_ 3 _) (hm2.upd hu4 hsg) HY1.out HY2.out HY3.out (HGO.out.symm.trans HW.out.run))⟩
          case measure => simp [intOf]; omega
        by_cases h3 : F = 3
        · have hfn : x.fn = 3 := by have := HF2.out; omega
          rw [step_move (by omega)] at hgo
          obtain ⟨K, hK⟩ : ∃ K, wordK x r = K := ⟨_, rfl⟩
          have hKe : wrap32 (r.a + wrap32 (4 * x.arg)) / 4 = K := by rw [← hK]; unfold wordK; rw [if_pos hfn]
          have hK32 : is32 K := by rw [← hKe]; unfold is32 wrap32; omega
          have HK64 := Lib.hid (w64 hK32)
          have HKE := Lib.hid hK
          clear hK
          subst h3
          have HWD := Lib.hid (rWordAt (wrap32 (r.a + wrap32 (4 * x.arg))) W1 (wrap32_is _))
          rw [hKe] at HWD
          by_cases hr1 : K < 0
          · rw [moveO_out (by rw [HKE.out, hmlen]; exact .inl hr1)] at hgo
            try simp only at hgo
            obtain rfl : R = (0, false, 4) := by rw [← HW.out.run]; exact hgo
            clear hgo hKe
            have hK64 := HK64.out
            go_wp2_with first
              | (go_at_call 28; (with_reducible refine HWD.out.mono ?_); rintro e w4 ⟨rfl, rfl⟩)
            go_ret3
            exact ⟨rfl, HW.out.below⟩
          by_cases hr2 : (m : Int) ≤ K
          · rw [moveO_out (by rw [HKE.out, hmlen]; exact .inr hr2)] at hgo
            try simp only at hgo
            obtain rfl : R = (0, false, 4) := by rw [← HW.out.run]; exact hgo
            clear hgo hKe
            have hK64 := HK64.out
            go_wp2_with first
              | (go_at_call 28; (with_reducible refine HWD.out.mono ?_); rintro e w4 ⟨rfl, rfl⟩)
            go_ret3
            exact ⟨rfl, HW.out.below⟩
          obtain ⟨kk, hkk⟩ : ∃ kk : Nat, K = kk := ⟨K.toNat, by omega⟩
          subst hkk
          have hkm : kk < mm.length := by omega
          obtain ⟨v, hv⟩ : ∃ v, mm[kk]? = some v := ⟨_, List.getElem?_eq_getElem hkm⟩
          have hv32 := HW.out.words v (List.mem_of_getElem? hv)
          obtain ⟨rfl, hrow⟩ := HW.out.mem (by omega)
          have hkc := hrow.cell (wordsC_get hv)
          have hkf := hrow.frozen kk
          have hgl := hrow.lt
          have HROW := Lib.hid hrow
          have hmo := moveO_in HKE.out hv
          rw [if_neg (by omega), if_pos hfn] at hmo
          obtain ⟨y1, y2, y3⟩ := moveO_ok HW.out.ok HW.out.words hmo
          rw [hmo] at hgo
          try simp only at hgo
          have HGO := Lib.hid hgo
          have HY1 := Lib.hid y1
          have HY2 := Lib.hid y2
          have HY3 := Lib.hid y3
          have hmk : (kk : Int) < (m : Int) := by omega
          have hkmN : kk < m := by omega
          clear hgo hmo hrow y1 y2 y3 hKe hfn
          go_wp2_with first
            | (go_at_call 28; (with_reducible refine HWD.out.mono ?_); rintro e w4 ⟨rfl, rfl⟩)
          go_roundw
          case rel => exact ⟨k + 1, _, mm, by omega, by go_num, Lib.hid (HW.out.step (r' := ⟨v, r.b, r.c, r.e⟩) HNE.out.1 HNE.out.2.2 ((UpdB.refl s W1).set1) (HW.out.regs.set_ 0 _) HY1.out (HGO.out.symm.trans HW.out.run))⟩
          case measure => simp [intOf]; omega
        have hfn4 : ¬ x.fn = 4 := by have := HF2.out; omega
        have hfn1 : ¬ x.fn = 1 := by have := HF2.out; omega
        have hfn8 : ¬ x.fn = 8 := by have := HF2.out; omega
        have hfn12 : ¬ x.fn = 12 := by have := HF2.out; omega
        have hfn15 : x.fn = 15 ∧ knownB x.arg = true := by
          have h3 := (List.all_eq_true.1 (fault_dist HF.out).2.2) x (List.mem_of_getElem? HX.out)
          have h4 : fnB x = true := by
            rw [runsB_eqR] at h3
            exact (Bool.and_eq_true_iff.1 h3).2
          unfold fnB at h4
          have h5 := HF2.out
          simp [hfn4, hfn1, hfn8, hfn12, show ¬ x.fn = 7 by omega, show ¬ x.fn = 13 by omega, show ¬ x.fn = 3 by omega, show ¬ x.fn = 10 by omega] at h4
          exact h4
        have hko : (opR r x.arg).isSome = true := by rw [known_of]; exact hfn15.2
        obtain ⟨q, hq⟩ := Option.isSome_iff_exists.1 hko
        rw [step_plain (by have := HF2.out; omega) (by have := HF2.out; omega)] at hgo
        try simp only at hgo
        have hpk := opR_ok HW.out.ok hq
        have HOP := Lib.hid (rOperate r HW.out.ok x.arg W1)
        rw [plain_5 hfn4 hfn1 hfn8 hfn12, hq] at hgo
        rw [hq] at HOP
        simp only [Option.getD_some] at hgo HOP
        simp only [RegL.cells] at HOP
        have HGO := Lib.hid hgo
        have HPK := Lib.hid hpk
        clear hgo hfn4 hfn1 hfn8 hfn12 hfn15 hko hq hpk
        go_wp2_with first
            | (go_at_call 31; (with_reducible refine HOP.out.mono ?_); rintro e w4 ⟨rfl, hb4⟩
               have HB4 := Lib.hid hb4
               have F4 := HW.out.regs.below hb4 HW.out.regs.lt
               have HF4 := Lib.hid F4
               have u0 := F4.frozen 0
               have u1 := F4.frozen 1
               have u2 := F4.frozen 2
               have u3 := F4.frozen 3
               simp only [RegL.cells] at F4
               have y0 := F4.cell 0
               have y1 := F4.cell 1
               have y2 := F4.cell 2
               have y3 := F4.cell 3
               simp at y0 y1 y2 y3
               have hl4 := F4.lt
               clear hb4 F4)
        go_roundw
        case rel => exact ⟨k + 1, q, mm, by omega, by go_num, Lib.hid (HW.out.step (r' := q) HNE.out.1 HNE.out.2.2 ((((UpdB.of_below HB4.out).set1).set1).set1).set1 ((((HF4.out.set_ 0 _).set_ 1 _).set_ 2 _).set_ 3 _) HPK.out (HGO.out.symm.trans HW.out.run))⟩
        case measure => simp [intOf]; omega
      · have hltI : ¬ (k : Int) < n := by omega
        obtain rfl : n = k := by omega
        have he := run_end (ls := ls) (k := n) (by rw [HN.out]; exact Nat.le_refl _) r mm
        rw [H.out.run] at he
        have hb := H.out.regs
        have HBl := Lib.hid H.out.below
        obtain ⟨ra, rb, rc, re⟩ := r
        simp only [RegL.cells] at hb
        have d0 := hb.cell 0
        have d1 := hb.cell 1
        have d2 := hb.cell 2
        have d3 := hb.cell 3
        simp at d0 d1 d2 d3
        have hsl := hb.lt
        simp only at he
        subst he
        clear H hb
        cases re
        · go_wp2
          go_ret3
          exact ⟨rfl, HBl.out⟩
        · go_wp2
          go_ret3
          exact ⟨rfl, HBl.out⟩
  · have HQ2 : Hid (R = (0, false, fq)) := Lib.hid (by
      have := HFQ.out
      rw [HQ.out]
      by_cases h12 : 4096 < ls.length ∨ 65536 < m
      · rw [if_pos h12] at this
        rw [if_pos (by rw [HM.out]; exact h12), this]
      · rw [if_neg h12] at this
        rw [if_neg (by rw [HM.out]; exact h12), if_pos (by rw [← this]; exact hf), this])
    obtain rfl := HQ2.out
    have hE : (fq != 0) = true := by simpa using hf
    clear hf HQ HFQ
    go_wp2_with first
      | (go_at_call 24; (with_reducible refine HC.out.mono ?_); rintro e w1 ⟨rfl, hb1⟩
         have HB1 := Lib.hid hb1
         clear hb1)
    go_ret3
    exact ⟨rfl, HB1.out⟩
end Go.Proofs.YtbefmlioampgcaaDoor

