/- AsmNumbers, walked. -/
import Derived.Test.YtjnngeakdclkbaaDoorHBC
namespace Go.Proofs.YtjnngeakdclkbaaDoor
open Go.RowKit Go.Maps Go.WideMaps Go.Shelf
set_option linter.unusedSimpArgs false
set_option linter.unusedVariables false

theorem own_set {w : World} {B e size n g c : Nat} {xs : List Value} (h : w.ownsRow B e size (.slice (some ⟨g, 0, none⟩) n c) n xs) (i : Nat) (u : Value) :
    (w.setCell ⟨g, i, none⟩ u).ownsRow B e size (.slice (some ⟨g, 0, none⟩) n c) n (xs.set i u) := by
  have hl := h.1
  refine ⟨by rw [List.length_set]; exact hl, ?_⟩
  rcases h.2 with ⟨e, _⟩ | ⟨g', cap, cur, e, hb, hg, hc, hm, hs, ht⟩
  · cases e
  · have e0 := e
    injection e with e1 e2 e3
    injection e1 with e1
    injection e1 with e1
    subst e1 e3
    refine .inr ⟨g, _, _, rfl, hb, Blk.set_ hg i u, hc, hm, by simpa using hs, ?_⟩
    rw [Array.toList_setIfInBounds, List.take_set, ht]
theorem own_lines_at {w : World} {B n : Nat} {v : Value} {ls : List LineL} (h : w.ownsRow B 48 5 v n (linesL ls)) (hn : 0 < n) : ∃ g c, v = .slice (some ⟨g, 0, none⟩) n c ∧ B ≤ g ∧ g < w.heap.size ∧ n ≤ c ∧ (∀ i, w.frozen? ⟨g, i, none⟩ = false) := by
  rcases h.2 with ⟨_, e⟩ | ⟨g, cap, cur, rfl, hb, hg, hc, hm, hs, ht⟩
  · omega
  · exact ⟨g, cap, rfl, hb, Blk.lt hg, hc, fun i => Blk.frozen hg i⟩
set_option maxRecDepth 100000 in
set_option maxHeartbeats 4000000 in
theorem numbers_true (ls : List LineL) (hok : ∀ x ∈ ls, LOk x) (A : Option Addr) (c : Nat) (B : Nat) (w : World) (hr : Reads w w.heap.size 5 A ls.length (linesL ls)) (hL : Laid5 B w) (hm : MaxAt B w) (hB : B ≤ w.heap.size) (hgB : 1 < B) :
    Calls Tryd.prog 6 #[.slice A (ls.length : Nat) c] w (RetV (.bool true) w) := by
  have S0 := Lib.hid (S6.start hL hm hB)
  have HH := Lib.hid (fun w h1 h2 h3 => lHead B w h1 h2 h3 hgB)
  have HBB := Lib.hid hB
  by_cases hn : 60 < ls.length
  · have hnI : 60 < (ls.length : Int) := by omega
    clear hL hm hB hr hok
    generalize ls.length = n at *
    go_enter Tryd.func6, Tryd.ntmps6
    go_wp2_with (go_at_call 10; refine (HH.out _ S0.out.l S0.out.m S0.out.b).mono ?_; rintro e w1 ⟨rfl, hb1⟩)
    go_ret
    exact ⟨rfl, hb1⟩
  · have hnI : ¬ 60 < (ls.length : Int) := by omega
    have HL := Lib.hid (fun w1 (hr : Reads w1 w1.heap.size 5 A ls.length (linesL ls)) h1 h2 => pLengths ls hok (by omega) A c B w1 hr h1 h2)
    have HA := Lib.hid (fun w1 (hr : Reads w1 w1.heap.size 5 A ls.length (linesL ls)) h1 h2 => pAssemble ls hok (by omega) A c B w1 hr h1 h2)
    have HR := Lib.hid hr
    by_cases he : checkE ls = 0
    · have hfit : Fit (opds ls) := opds_fit (by omega) fun x hx => (hok x hx).arg
      have h8 := fix8 hfit (LE.refl _)
      have hFl : (fixL (opds ls)).length = ls.length := by rw [fixL_len hfit, opds_len]
      have HL0 := Lib.hid (fun w1 hr h1 h2 => (HL.out w1 hr h1 h2).mono fun e w' h => h.zero he)
      have HA0 := Lib.hid (fun w1 hr h1 h2 => (HA.out w1 hr h1 h2).mono fun e w' h => h.zero he)
      have HO := Lib.hid (fun w1 (hr : Reads w1 w1.heap.size 5 A ls.length (linesL ls)) => lOwn A ls.length c (linesL ls) (linesL_one ls) (by omega) w1 hr)
      have HOP := Lib.hid (fun (k : Nat) (x : LineL) (hx : ls[k]? = some x) A2 c2 w1 h1 h2 => rOperand ls hx (by omega) hFl (fun i => Nat.le_trans (h8 i) (by decide)) A A2 c c2 w1 h1 h2)
      have hok2 := num_ok hfit h8 hok
      have hlen2 : (numAll (fixL (opds ls)) ls).length = ls.length := numAll_len _ _
      have hfit2 : Fit (opds (numAll (fixL (opds ls)) ls)) := opds_fit (by omega) fun x hx => (hok2 x hx).arg
      have HA2 := Lib.hid (fun A2 c2 w1 hr h1 h2 => (pAssemble (numAll (fixL (opds ls)) ls) hok2 (by omega) A2 c2 B w1 hr h1 h2).mono fun e w' h => h.zero (num_check he))
      rw [num_code hfit hfit2, hlen2] at HA2
      have hcl := codeK_len (ls := ls) (fun (k : Nat) (x : LineL) hx => val_is32 hfit h8 (opds_get hx)) ls.length
      rw [codeK_end] at hcl
      clear HL HA hL hm hB hr hfit hfit2 hok2 hlen2
      have HNK := Lib.hid (numK_zero (fixL (opds ls)) ls)
      have HNE := Lib.hid (numK_end (fixL (opds ls)) ls)
      generalize fixL (opds ls) = F at *
      obtain ⟨n, hnn⟩ : ∃ n, ls.length = n := ⟨_, rfl⟩
      rw [hnn] at HR HL0 HA0 HO HOP HA2 HNE hcl hn hnI hFl ⊢
      have HNN := Lib.hid hnn
      have H8 := Lib.hid h8
      have HFL := Lib.hid hFl
      clear hnn h8 hFl he
      go_enter Tryd.func6, Tryd.ntmps6
      go_wp2_with (first
        | (go_at_call 16; (with_reducible refine (HL0.out _ HR.out S0.out.l S0.out.b).mono ?_); rintro e w1 ⟨hb1, gn, rfl, hn1, hgn⟩
           have S1 := Lib.hid (S0.out.call hb1)
           have N1 := Lib.hid hn1
           have R1 := Lib.hid ((HR.out.below hb1).more hb1.size)
           clear hb1 hn1 HL0)
        | (go_at_call 19; (with_reducible refine (HA0.out _ R1.out S1.out.l S1.out.b).mono ?_); rintro e w2 ⟨hb2, ac, cc, ga, rfl, hc2, ha2, hga⟩
           have S2 := Lib.hid (S1.out.call hb2)
           have N2 := Lib.hid (N1.out.call hb2)
           have C2 := Lib.hid hc2
           have R2 := Lib.hid ((R1.out.below hb2).more hb2.size)
           clear hb2 hc2 ha2 HA0 N1 R1)
        | (go_at_call 20; (with_reducible refine (HO.out _ R2.out).mono ?_); intro e w3 hret; obtain ⟨ao, co, rfl, ho3, hb3, hle3⟩ := hret.cell
           have S3 := Lib.hid (S2.out.call hb3)
           have N3 := Lib.hid (N2.out.call hb3)
           have C3 := Lib.hid (C2.out.keep hb3 (Nat.le_refl _))
           have O3 := Lib.hid ho3
           have hgl := N2.out.lt
           have HCL := Lib.hid (fun g e => (C2.out.lt g e).2)
           clear hb3 ho3 HO N2 C2 R2))
      have hgb : ∀ gg, w2.heap.size ≤ gg → gn ≠ gg := fun gg h e => by omega
      have hcb : ∀ gg, w2.heap.size ≤ gg → (Value.slice ac (codeL ls).length cc).ownBlock ≠ some gg := fun gg h e => by have := HCL.out gg e; omega
      have hw2 : w.heap.size ≤ w2.heap.size := S2.out.k.size
      have HGB := Lib.hid hgb
      have HCB := Lib.hid hcb
      have HNC := Lib.hid hcl
      clear hgb hcb HCL hgl hcl
      rw [← HNK.out] at O3
      generalize codeL ls = CL at *
      go_loopw [9] (fun p wr => ∃ k : Nat, k ≤ n ∧ p = .int .i64 k ∧ Hid (S6 B w wr) ∧ Hid (Blk wr gn 3 (ncells F).toArray) ∧ Hid (wr.ownsRow w1.heap.size 5 1 (.slice ac CL.length cc) CL.length (bcells CL)) ∧
        Hid (wr.ownsRow w2.heap.size 48 5 (.slice ao n co) n (linesL (numK F ls k)))) (fun p _ => n - (intOf p).toNat)
      case atStart => exact ⟨0, by omega, rfl, S3, N3, C3, O3⟩
      case round =>
        clear S3 N3 C3 O3
        obtain ⟨k, hk, rfl, S, N, C, O⟩ := hrel
        by_cases hlt : k < n
        · have hltI : (k : Int) < n := by omega
          have hx : ls[k]? = some (ls[k]'(by rw [HNN.out]; exact hlt)) := List.getElem?_eq_getElem (by rw [HNN.out]; exact hlt)
          generalize ls[k]'(by rw [HNN.out]; exact hlt) = x at hx
          obtain ⟨g, cg, e, hbg, hgl, hcg, -⟩ := own_lines_at O.out (by omega)
          injection e with e1 e2 e3
          subst e1 e3
          have HOC := Lib.hid (HOP.out k x hx (some ⟨gn, 0, none⟩) n wr ((HR.out.below S.out.k).more S.out.k.size) (Reads.of_blk N.out (by rw [ncells_len, HFL.out])))
          have HX := Lib.hid hx
          have hnum : numX F ls k x = { x with arg := valO F (opdL ls k x), target := [], frm := [] } := rfl
          have HSET := Lib.hid (linesL_set (numK F ls k) k x (numX F ls k x) (numK_at hx) rfl rfl)
          have HNX := Lib.hid (numK_set (F := F) hx)
          obtain ⟨l0, l1, l2, l3, l4⟩ := linesL_at (numK_at (F := F) hx)
          rw [Nat.mul_comm] at l2 l3 l4
          have HL2 := Lib.hid l2
          have HL3 := Lib.hid l3
          have HL4 := Lib.hid l4
          clear hx hnum l0 l1 l2 l3 l4 HOP
          simp only [numX] at HSET HNX
          generalize valO F (opdL ls k x) = vv at *
          go_wp2_with (go_at_call 21; (with_reducible refine HOC.out.mono ?_); rintro e w4 ⟨rfl, hb4⟩
                       have O4 := Lib.hid (O.out.keep hb4 (Nat.le_refl _))
                       have S4 := Lib.hid (S.out.call hb4)
                       have N4 := Lib.hid (N.out.call hb4)
                       have C4 := Lib.hid (C.out.keep hb4 (Nat.le_refl _))
                       have rc := RowC.of_own O4.out
                       have f2 := rc.frozen (k * 5 + 2)
                       have f3 := rc.frozen (k * 5 + 3)
                       have f4 := rc.frozen (k * 5 + 4)
                       have c2 := rc.cell HL2.out
                       have c3 := rc.cell HL3.out
                       have c4 := rc.cell HL4.out
                       clear rc hb4 S N C O)
          go_roundw
          case rel =>
            have hne := HGB.out g hbg
            have hnc := HCB.out g hbg
            have hwg : w.heap.size ≤ g := by omega
            refine ⟨k + 1, by omega, by go_num, Lib.hid (((S4.out.set HBB.out (p := ⟨g, k * 5 + 2, none⟩) hwg _).set HBB.out (p := ⟨g, k * 5 + 3, none⟩) hwg _).set HBB.out (p := ⟨g, k * 5 + 4, none⟩) hwg _),
              Lib.hid (((N4.out.far (p := ⟨g, k * 5 + 2, none⟩) hne _).far (p := ⟨g, k * 5 + 3, none⟩) hne _).far (p := ⟨g, k * 5 + 4, none⟩) hne _),
              Lib.hid (ownsRow_setCell_other (ownsRow_setCell_other (ownsRow_setCell_other C4.out (a := ⟨g, k * 5 + 2, none⟩) hnc _) (a := ⟨g, k * 5 + 3, none⟩) hnc _) (a := ⟨g, k * 5 + 4, none⟩) hnc _), Lib.hid ?_⟩
            rw [← HNX.out]
            have := own_set (own_set (own_set O4.out (k * 5 + 2) (.int .i32 vv)) (k * 5 + 3) (.string (strB []))) (k * 5 + 4) (.string (strB []))
            rw [HSET.out] at this
            exact this
          case measure => simp [intOf]; omega
        · have hltI : ¬ (k : Int) < n := by omega
          obtain rfl : n = k := by omega
          rw [HNE.out] at O
          have HA3 := Lib.hid (HA2.out ao co wr (Reads.of_own O.out) S.out.l S.out.b)
          clear HA2
          generalize hSC : strB CL = SC at *
          have HSC := Lib.hid hSC
          clear hSC
          go_wp2_with (first
            | (go_at_call 19; (with_reducible refine HA3.out.mono ?_); rintro e w5 ⟨hb5, ad, cd, gd, rfl, hc5, hd5, hgd⟩
               have S5' := Lib.hid (S.out.call hb5)
               have cv1 : (convert 36 9 (.slice ac CL.length cc)).run Tryd.prog w5 = .ok (.string SC) w5 := by rw [← HSC.out]; exact conv_back (Reads.of_own (C.out.keep hb5 (Nat.le_refl _)))
               have cv2 : (convert 36 9 (.slice ad CL.length cd)).run Tryd.prog w5 = .ok (.string SC) w5 := by rw [← HSC.out]; exact conv_back (Reads.of_own hc5)
               clear hb5 hc5 hd5)
            | (go_at_call 10; refine (HH.out _ S5'.out.l S5'.out.m S5'.out.b).mono ?_; rintro e w6 ⟨rfl, hb6⟩))
          go_ret
          exact ⟨rfl, (S5'.out.call hb6).k⟩
    · have HL0 := Lib.hid (fun w1 hr h1 h2 => (HL.out w1 hr h1 h2).mono fun e w' h => h.not he)
      have HA0 := Lib.hid (fun w1 hr h1 h2 => (HA.out w1 hr h1 h2).mono fun e w' h => h.not he)
      have hne : (checkE ls != 0) = true := by simpa using he
      clear HL HA hL hm hB hr he
      generalize checkE ls = ee at *
      generalize ls.length = n at *
      go_enter Tryd.func6, Tryd.ntmps6
      go_wp2_with (first
        | (go_at_call 16; (with_reducible refine (HL0.out _ HR.out S0.out.l S0.out.b).mono ?_); rintro e w1 ⟨hb1, rfl⟩
           have S1 := Lib.hid (S0.out.call hb1)
           have R1 := Lib.hid ((HR.out.below hb1).more hb1.size)
           clear hb1 HL0)
        | (go_at_call 19; (with_reducible refine (HA0.out _ R1.out S1.out.l S1.out.b).mono ?_); rintro e w2 ⟨hb2, rfl⟩
           have S2 := Lib.hid (S1.out.call hb2)
           clear hb2 HA0)
        | (go_at_call 10; refine (HH.out _ S2.out.l S2.out.m S2.out.b).mono ?_; rintro e w6 ⟨rfl, hb6⟩))
      go_ret
      exact ⟨rfl, (S2.out.call hb6).k⟩
end Go.Proofs.YtjnngeakdclkbaaDoor
