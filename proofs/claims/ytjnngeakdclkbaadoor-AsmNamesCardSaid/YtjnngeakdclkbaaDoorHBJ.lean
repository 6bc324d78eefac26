/- AsmNames, walked. -/
import Derived.Test.YtjnngeakdclkbaaDoorHBI
import Derived.Test.YtjnngeakdclkbaaDoorHBE
namespace Go.Proofs.YtjnngeakdclkbaaDoor
open Go.RowKit Go.Maps Go.WideMaps Go.Shelf
set_option linter.unusedSimpArgs false
set_option linter.unusedVariables false

theorem lRenamed (l : List UInt8) (hl : l.length ≤ 281474976710656) (w : World) : Calls Tryd.prog 22 #[.string (strB l)] w (RetV (.string (strB (renS l))) w) := by
  have e0 := strB_empty l
  have hsz : (strB l).size = l.length := strB_size l
  by_cases hz : l = []
  · subst hz
    have e1 : strB (renS []) = strB [] := rfl
    rw [e1]
    generalize strB [] = S at *
    go_enter Tryd.func22, Tryd.ntmps22
    go_wp2
    go_ret
    exact ⟨rfl, Below.refl _ _⟩
  · have hz2 : l.isEmpty = false := by simpa using hz
    rw [hz2] at e0
    by_cases h32 : 32 ≤ l.length
    · have e1 : renS l = l := by unfold renS; rw [if_pos (by simp [h32])]
      rw [e1]
      have h32I : 32 ≤ (l.length : Int) := by omega
      rw [← hsz] at h32I
      generalize strB l = S at *
      clear hsz hz hz2
      go_enter Tryd.func22, Tryd.ntmps22
      go_wp2
      go_ret
      exact ⟨rfl, Below.refl _ _⟩
    · have e1 : strB (renS l) = ⟨#[113]⟩ ++ strB l := by
        rw [renS_short (by omega), hz2]
        exact (str_append [113] l).symm
      rw [e1]
      have h32I : ¬ 32 ≤ (l.length : Int) := by omega
      rw [← hsz] at h32I
      have hs100 : (strB l).size ≤ 100 := by rw [hsz]; omega
      generalize strB l = S at *
      clear hsz hz hz2
      go_enter Tryd.func22, Tryd.ntmps22
      go_wp2
      go_ret
      exact ⟨rfl, Below.refl _ _⟩
set_option maxRecDepth 100000 in
set_option maxHeartbeats 4000000 in
theorem names_true (ls : List LineL) (hok : ∀ x ∈ ls, LOk x) (A : Option Addr) (c : Nat) (B : Nat) (w : World) (hr : Reads w w.heap.size 5 A ls.length (linesL ls)) (hL : Laid5 B w) (hm : MaxAt B w) (hB : B ≤ w.heap.size) (hgB : 1 < B) :
    Calls Tryd.prog 7 #[.slice A (ls.length : Nat) c] w (RetV (.bool true) w) := by
  have S0 := Lib.hid (S6.start hL hm hB)
  have HH := Lib.hid (fun w h1 h2 h3 => lHead B w h1 h2 h3 hgB)
  have HBB := Lib.hid hB
  by_cases hn : 60 < ls.length
  · have hnI : 60 < (ls.length : Int) := by omega
    clear hL hm hB hr hok
    generalize ls.length = n at *
    go_enter Tryd.func7, Tryd.ntmps7
    go_wp2_with (go_at_call 10; refine (HH.out _ S0.out.l S0.out.m S0.out.b).mono ?_; rintro e w1 ⟨rfl, hb1⟩)
    go_ret
    exact ⟨rfl, hb1⟩
  · have hnI : ¬ 60 < (ls.length : Int) := by omega
    have HA := Lib.hid (fun w1 (hr : Reads w1 w1.heap.size 5 A ls.length (linesL ls)) h1 h2 => pAssemble ls hok (by omega) A c B w1 hr h1 h2)
    have HA2 := Lib.hid (fun (hs : ∀ x ∈ ls, shortX x) A2 c2 w1 hr h1 h2 => pAssemble (ls.map renX) (fun y hy => by obtain ⟨x, hx, rfl⟩ := List.mem_map.1 hy; exact ren_ok2 (hok x hx)) (by rw [List.length_map]; omega) A2 c2 B w1 hr h1 h2)
    have HR := Lib.hid hr
    have HK := Lib.hid hok
    have HO := Lib.hid (fun w1 (hr : Reads w1 w1.heap.size 5 A ls.length (linesL ls)) => lOwn A ls.length c (linesL ls) (linesL_one ls) (by omega) w1 hr)
    have HNZ := Lib.hid (renK_zero ls)
    have HNE := Lib.hid (renK_end ls)
    obtain ⟨n, hnn⟩ : ∃ n, ls.length = n := ⟨_, rfl⟩
    have hlm : (ls.map renX).length = n := by rw [List.length_map, hnn]
    rw [hlm] at HA2
    rw [hnn] at HR HA HO HNE hn hnI ⊢
    have HNN := Lib.hid hnn
    clear hL hm hB hr hok hnn hlm
    go_enter Tryd.func7, Tryd.ntmps7
    go_wp2_with (go_at_call 20; (with_reducible refine (HO.out _ HR.out).mono ?_); intro e w1 hret; obtain ⟨ao, co, rfl, ho1, hb1, hle1⟩ := hret.cell
                 have S1 := Lib.hid (S0.out.call hb1)
                 have O1 := Lib.hid ho1
                 clear hb1 ho1 HO)
    rw [← HNZ.out] at O1
    go_loopw [4] (fun p wr => ∃ k : Nat, k ≤ n ∧ p = .int .i64 k ∧ Hid (S6 B w wr) ∧ Hid (∀ (j : Nat) (x : LineL), j < k → ls[j]? = some x → shortX x) ∧ Hid (wr.ownsRow w.heap.size 48 5 (.slice ao n co) n (linesL (renK ls k)))) (fun p _ => n - (intOf p).toNat)
    case atStart => exact ⟨0, by omega, rfl, S1, Lib.hid (by intro j x h; omega), O1⟩
    case round =>
      clear S1 O1
      obtain ⟨k, hk, rfl, S, HSH, O⟩ := hrel
      by_cases hlt : k < n
      · have hltI : (k : Int) < n := by omega
        have hx : ls[k]? = some (ls[k]'(by rw [HNN.out]; exact hlt)) := List.getElem?_eq_getElem (by rw [HNN.out]; exact hlt)
        generalize ls[k]'(by rw [HNN.out]; exact hlt) = x at hx
        obtain ⟨g, cg, e, hbg, hgl, hcg, -⟩ := own_lines_at O.out (by omega)
        injection e with e1 e2 e3
        subst e1 e3
        have HX := Lib.hid hx
        have HXO := HK.out x (List.mem_of_getElem? hx)
        have HSET := Lib.hid (linesL_set3 (renK ls k) k x (renX x) (renK_at hx) rfl rfl)
        have HNX := Lib.hid (renK_set hx)
        obtain ⟨l0, l1, l2, l3, l4⟩ := linesL_at (renK_at hx)
        rw [Nat.mul_comm] at l0 l3 l4
        have rc := RowC.of_own O.out
        have c0 := rc.cell l0
        have c3 := rc.cell l3
        have c4 := rc.cell l4
        have z1 := strB_size x.label
        have z2 := strB_size x.target
        have z3 := strB_size x.frm
        have HD0 := Lib.hid l0
        have HD3 := Lib.hid l3
        have HD4 := Lib.hid l4
        have HR1 := Lib.hid (fun w => lRenamed x.label HXO.label w)
        have HR2 := Lib.hid (fun w => lRenamed x.target HXO.target w)
        have HR3 := Lib.hid (fun w => lRenamed x.frm HXO.frm w)
        have hsx : shortX x ↔ (x.label.length < 32 ∧ x.target.length < 32 ∧ x.frm.length < 32) := Iff.rfl
        clear hx l0 l1 l2 l3 l4 rc HXO
        simp only [renX] at HSET HNX
        by_cases s1 : x.label.length < 32
        · by_cases s2 : x.target.length < 32
          · by_cases s3 : x.frm.length < 32
            · have HSX := Lib.hid (hsx.2 ⟨s1, s2, s3⟩)
              have s1I : ¬ 32 ≤ ((strB x.label).size : Int) := by rw [z1]; omega
              have s2I : ¬ 32 ≤ ((strB x.target).size : Int) := by rw [z2]; omega
              have s3I : ¬ 32 ≤ ((strB x.frm).size : Int) := by rw [z3]; omega
              clear hsx s1 s2 s3 z1 z2 z3
              generalize strB (renS x.label) = RL at *
              generalize strB (renS x.target) = RT at *
              generalize strB (renS x.frm) = RF at *
              generalize strB x.label = SL at *
              generalize strB x.target = ST at *
              generalize strB x.frm = SF at *
              have hwg : w.heap.size ≤ g := hbg
              go_wp2_with (first
                | (go_at_call 22; (with_reducible refine (HR1.out _).mono ?_); rintro e w4 ⟨rfl, hb4⟩
                   have O4 := Lib.hid (O.out.keep hb4 (Nat.le_refl _))
                   have S4 := Lib.hid (S.out.call hb4)
                   have r4 := RowC.of_own O4.out
                   have f40 := r4.frozen (k * 5)
                   have c40 := r4.cell HD0.out
                   have c43 := r4.cell HD3.out
                   have c44 := r4.cell HD4.out
                   have O5 := Lib.hid (own_set O4.out (k * 5) (.string RL))
                   have S5' := Lib.hid (S4.out.set HBB.out (p := ⟨g, k * 5, none⟩) hwg (.string RL))
                   have b5 : g < (w4.setCell ⟨g, k * 5, none⟩ (.string RL)).heap.size := (RowC.of_own O5.out).lt
                   clear hb4 r4 HR1 c0 c3 c4)
                | (go_at_call 22; (with_reducible refine (HR2.out _).mono ?_); rintro e w6 ⟨rfl, hb6⟩
                   have O6 := Lib.hid (O5.out.keep hb6 (Nat.le_refl _))
                   have S6' := Lib.hid (S5'.out.call hb6)
                   have r6 := RowC.of_own O6.out
                   have f63 := r6.frozen (k * 5 + 3)
                   have d3 : ((linesL (renK ls k)).set (k * 5) (.string RL))[k * 5 + 3]? = some (.string ST) := by rw [List.getElem?_set_ne (by omega)]; exact HD3.out
                   have d4 : ((linesL (renK ls k)).set (k * 5) (.string RL))[k * 5 + 4]? = some (.string SF) := by rw [List.getElem?_set_ne (by omega)]; exact HD4.out
                   have HE4 := Lib.hid d4
                   have c63 := r6.cell d3
                   have c64 := r6.cell d4
                   have O7 := Lib.hid (own_set O6.out (k * 5 + 3) (.string RT))
                   have S7 := Lib.hid (S6'.out.set HBB.out (p := ⟨g, k * 5 + 3, none⟩) hwg (.string RT))
                   clear hb6 r6 HR2 d3 d4 c40 c43 c44)
                | (go_at_call 22; (with_reducible refine (HR3.out _).mono ?_); rintro e w8 ⟨rfl, hb8⟩
                   have O8 := Lib.hid (O7.out.keep hb8 (Nat.le_refl _))
                   have S8 := Lib.hid (S7.out.call hb8)
                   have r8 := RowC.of_own O8.out
                   have f84 := r8.frozen (k * 5 + 4)
                   have d4 : (((linesL (renK ls k)).set (k * 5) (.string RL)).set (k * 5 + 3) (.string RT))[k * 5 + 4]? = some (.string SF) := by rw [List.getElem?_set_ne (by omega)]; exact HE4.out
                   have c84 := r8.cell d4
                   have O9 := Lib.hid (own_set O8.out (k * 5 + 4) (.string RF))
                   have S9 := Lib.hid (S8.out.set HBB.out (p := ⟨g, k * 5 + 4, none⟩) hwg (.string RF))
                   clear hb8 r8 d4 HR3 c63 c64))
              go_roundw
              case rel =>
                refine ⟨k + 1, by omega, by go_num, S9, Lib.hid ?_, ?_⟩
                · intro j y hj hy
                  by_cases e : j = k
                  · subst e; rw [HX.out] at hy; injection hy with hy; subst hy; exact HSX.out
                  · exact HSH.out j y (by omega) hy
                · rw [HSET.out, HNX.out] at O9
                  exact O9
              case measure => simp [intOf]; omega
            · have s1I : ¬ 32 ≤ ((strB x.label).size : Int) := by rw [z1]; omega
              have s2I : ¬ 32 ≤ ((strB x.target).size : Int) := by rw [z2]; omega
              have s3I : 32 ≤ ((strB x.frm).size : Int) := by rw [z3]; omega
              clear hsx s1 s2 s3 z1 z2 z3
              generalize strB x.label = SL at *
              generalize strB x.target = ST at *
              generalize strB x.frm = SF at *
              go_wp2_with (go_at_call 10; refine (HH.out _ S.out.l S.out.m S.out.b).mono ?_; rintro e w6 ⟨rfl, hb6⟩)
              go_ret
              exact ⟨rfl, (S.out.call hb6).k⟩
          · have s1I : ¬ 32 ≤ ((strB x.label).size : Int) := by rw [z1]; omega
            have s2I : 32 ≤ ((strB x.target).size : Int) := by rw [z2]; omega
            clear hsx s1 s2 z1 z2 z3
            generalize strB x.label = SL at *
            generalize strB x.target = ST at *
            generalize strB x.frm = SF at *
            go_wp2_with (go_at_call 10; refine (HH.out _ S.out.l S.out.m S.out.b).mono ?_; rintro e w6 ⟨rfl, hb6⟩)
            go_ret
            exact ⟨rfl, (S.out.call hb6).k⟩
        · have s1I : 32 ≤ ((strB x.label).size : Int) := by rw [z1]; omega
          clear hsx s1 z1 z2 z3
          generalize strB x.label = SL at *
          generalize strB x.target = ST at *
          generalize strB x.frm = SF at *
          go_wp2_with (go_at_call 10; refine (HH.out _ S.out.l S.out.m S.out.b).mono ?_; rintro e w6 ⟨rfl, hb6⟩)
          go_ret
          exact ⟨rfl, (S.out.call hb6).k⟩
      · have hltI : ¬ (k : Int) < n := by omega
        obtain rfl : n = k := by omega
        rw [HNE.out] at O
        have hsh : ∀ x ∈ ls, shortX x := fun x hx => by
          obtain ⟨j, hj⟩ := List.getElem?_of_mem hx
          exact HSH.out j x (by have := (List.getElem?_eq_some_iff.1 hj).1; rw [HNN.out] at this; exact this) hj
        have HA3 := Lib.hid (HA2.out hsh ao co)
        have HCHK := Lib.hid (ren_check hsh)
        have HOPD := Lib.hid (ren_opds hsh)
        have HCOD := Lib.hid (ren_code hsh)
        clear HA2 hsh HSH
        have RA := Lib.hid ((HR.out.below S.out.k).more S.out.k.size)
        have HAW := HA.out wr RA.out S.out.l S.out.b
        by_cases he : checkE ls = 0
        · have HP := Lib.hid (HAW.mono fun e w' h => h.zero he)
          have HQ := Lib.hid (fun w1 hr h1 h2 => (HA3.out w1 hr h1 h2).mono fun e w' h => h.zero (by rw [HCHK.out (by rw [he]; decide)]; exact he))
          rw [List.length_map, HOPD.out, HCOD.out] at HQ
          rw [HNN.out] at HP HQ
          clear HAW HA HA3 HCHK HOPD HCOD he
          generalize codeL ls = CL at *
          have hat : (ncells (adrs (fixL (opds ls)) n)).length = n + 1 := by rw [ncells_len, adrs_len]
          have htk : (ncells (adrs (fixL (opds ls)) n)).take n = ncells ((adrs (fixL (opds ls)) n).take n) := by unfold ncells; rw [List.map_take]
          have HAT := Lib.hid hat
          have HTK := Lib.hid htk
          generalize hSC : strB CL = SC at *
          have HSC := Lib.hid hSC
          clear hat htk hSC
          go_wp2_with (first
            | (go_at_call 19; (with_reducible refine HP.out.mono ?_); rintro e w3 ⟨hb3, ac, cc, ga, rfl, hc3, ha3, hga⟩
               have S3 := Lib.hid (S.out.call hb3)
               have HQ3 := Lib.hid (HQ.out w3 (Reads.of_own (O.out.keep hb3 (Nat.le_refl _))) S3.out.l S3.out.b)
               have C3 := Lib.hid hc3
               have A3 := Lib.hid ha3
               clear hc3 ha3 hb3 HP HQ)
            | (go_at_call 19; (with_reducible refine HQ3.out.mono ?_); rintro e w4 ⟨hb4, ad, cd, gd, rfl, hc4, ha4, hgd⟩
               have S4 := Lib.hid (S3.out.call hb4)
               have cv1 : (convert 36 9 (.slice ac CL.length cc)).run Tryd.prog w4 = .ok (.string SC) w4 := by rw [← HSC.out]; exact conv_back (Reads.of_own (C3.out.keep hb4 (Nat.le_refl _)))
               have cv2 : (convert 36 9 (.slice ad CL.length cd)).run Tryd.prog w4 = .ok (.string SC) w4 := by rw [← HSC.out]; exact conv_back (Reads.of_own hc4)
               have HRA := Reads.sub (A3.out.call hb4) 0 n 1 (by rw [HAT.out]; omega)
               have HRB := Reads.sub ha4 0 n 1 (by rw [HAT.out]; omega)
               simp only [Nat.zero_mul, List.drop_zero, Nat.mul_one, HTK.out] at HRA HRB
               have HSI := Lib.hid (sInts (some ⟨ga, 0, none⟩) (some ⟨gd, 0, none⟩) n n n n _ _ w4 HRA HRB (by omega))
               rw [decide_eq_true rfl] at HSI
               clear hc4 ha4 hb4 HRA HRB)
            | (go_at_call 17; (with_reducible refine HSI.out.mono ?_); rintro e w5 ⟨rfl, hb5⟩
               have S5' := Lib.hid (S4.out.call hb5)
               clear hb5)
            | (go_at_call 10; refine (HH.out _ S5'.out.l S5'.out.m S5'.out.b).mono ?_; rintro e w6 ⟨rfl, hb6⟩))
          go_ret
          exact ⟨rfl, (S5'.out.call hb6).k⟩
        · have HP := Lib.hid (HAW.mono fun e w' h => h.not he)
          by_cases h2 : checkE ls = 2
          · rw [h2] at HP
            have HQ0 := Lib.hid (fun w1 hr h1 h2 => (HA3.out w1 hr h1 h2))
            have HQ1 : Hid (∀ (w1 : World) (hr : Reads w1 w1.heap.size 5 ao n (linesL (ls.map renX))) (h1 : Laid5 B w1) (h2 : B ≤ w1.heap.size), Calls Tryd.prog 19 #[.slice ao n co] w1 fun e w' => Below w1.heap.size w1 w' ∧ ∃ x y z : Value, e = .returned (.tuple #[x, y, z])) :=
              Lib.hid fun w1 hr h1 h2 => (HQ0.out w1 hr h1 h2).mono fun e w' h => ⟨h.1, by
                rcases h.2 with ⟨_, A, c, g, rfl, _⟩ | ⟨_, rfl⟩
                · exact ⟨_, _, _, rfl⟩
                · exact ⟨_, _, _, rfl⟩⟩
            clear HAW HA HA3 HCHK HOPD HCOD he HQ0
            go_wp2_with (first
              | (go_at_call 19; (with_reducible refine HP.out.mono ?_); rintro e w3 ⟨hb3, rfl⟩
                 have S3 := Lib.hid (S.out.call hb3)
                 have HQ3 := Lib.hid (HQ1.out w3 (Reads.of_own (O.out.keep hb3 (Nat.le_refl _))) S3.out.l S3.out.b)
                 clear hb3 HP HQ1)
              | (go_at_call 19; (with_reducible refine HQ3.out.mono ?_); rintro e w4 ⟨hb4, vx, vy, vz, rfl⟩
                 have S4 := Lib.hid (S3.out.call hb4)
                 clear hb4)
              | (go_at_call 10; refine (HH.out _ S4.out.l S4.out.m S4.out.b).mono ?_; rintro e w6 ⟨rfl, hb6⟩))
            go_ret
            exact ⟨rfl, (S4.out.call hb6).k⟩
          · have HQ := Lib.hid (fun w1 hr h1 h2' => (HA3.out w1 hr h1 h2').mono fun e w' h => h.not (by rw [HCHK.out h2]; exact he))
            rw [HCHK.out h2] at HQ
            have hz2 : (checkE ls == 2) = false := by simpa using h2
            clear HAW HA HA3 HCHK HOPD HCOD he h2
            generalize checkE ls = ee at *
            go_wp2_with (first
              | (go_at_call 19; (with_reducible refine HP.out.mono ?_); rintro e w3 ⟨hb3, rfl⟩
                 have S3 := Lib.hid (S.out.call hb3)
                 have HQ3 := Lib.hid (HQ.out w3 (Reads.of_own (O.out.keep hb3 (Nat.le_refl _))) S3.out.l S3.out.b)
                 clear hb3 HP HQ)
              | (go_at_call 19; (with_reducible refine HQ3.out.mono ?_); rintro e w4 ⟨hb4, rfl⟩
                 have S4 := Lib.hid (S3.out.call hb4)
                 have cv1 : (convert 36 9 (.slice none 0 0)).run Tryd.prog w4 = .ok (.string ⟨#[]⟩) w4 := conv_back (B := 0) (l := []) Reads.none_
                 have HSI := Lib.hid (sInts none none 0 0 0 0 [] [] w4 Reads.none_ Reads.none_ (by omega))
                 rw [decide_eq_true rfl] at HSI
                 clear hb4)
              | (go_at_call 17; (refine HSI.out.mono ?_); rintro e w5 ⟨rfl, hb5⟩
                 have S5' := Lib.hid (S4.out.call hb5)
                 clear hb5)
              | (go_at_call 10; refine (HH.out _ S5'.out.l S5'.out.m S5'.out.b).mono ?_; rintro e w6 ⟨rfl, hb6⟩))
            go_ret
            exact ⟨rfl, (S5'.out.call hb6).k⟩
end Go.Proofs.YtjnngeakdclkbaaDoor
