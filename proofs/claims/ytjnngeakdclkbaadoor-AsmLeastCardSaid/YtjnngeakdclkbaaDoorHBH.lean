/- AsmLeast, walked. -/
import Derived.Test.YtjnngeakdclkbaaDoorHK8
namespace Go.Proofs.YtjnngeakdclkbaaDoor
open Go.RowKit Go.Maps Go.WideMaps Go.Shelf
set_option linter.unusedSimpArgs false
set_option linter.unusedVariables false

/-- The lengths that are tried. -/
def moreL (os : List UInt8) (n : Nat) : List Nat := (List.range n).map fun i => 1 + (match os[i]? with | some b => b.toNat % 9 | none => 0)
theorem moreL_len (os : List UInt8) (n : Nat) : (moreL os n).length = n := by simp [moreL]
theorem moreL_snoc (os : List UInt8) (k : Nat) : moreL os (k + 1) = moreL os k ++ [1 + (match os[k]? with | some b => b.toNat % 9 | none => 0)] := by
  simp [moreL, List.range_succ]
theorem moreL_get {os : List UInt8} {n i : Nat} : (moreL os n).getD i 0 ≤ 9 := by
  rw [List.getD_eq_getElem?_getD]
  by_cases h : i < n
  · have : (moreL os n)[i]? = some (1 + (match os[i]? with | some b => b.toNat % 9 | none => 0)) := by simp [moreL, h]
    rw [this]
    have key : ∀ o : Option UInt8, 1 + (match o with | some b => b.toNat % 9 | none => 0) ≤ 9 := by
      intro o
      cases o with
      | none => decide
      | some b => simp only; have := Nat.mod_lt b.toNat (show 9 > 0 by decide); omega
    exact key _
  · rw [List.getElem?_eq_none (by rw [moreL_len]; omega)]; simp
set_option maxRecDepth 100000 in
set_option maxHeartbeats 4000000 in
theorem least_true (ls : List LineL) (hok : ∀ x ∈ ls, LOk x) (A : Option Addr) (c : Nat) (os : List UInt8) (A' : Option Addr) (c' : Nat) (B : Nat) (w : World) (hr : Reads w w.heap.size 5 A ls.length (linesL ls)) (hr' : Reads w w.heap.size 1 A' os.length (os.map fun (x : UInt8) => .int .u8 (x.toNat : Int)))
    (hL : Laid5 B w) (hm : MaxAt B w) (hB : B ≤ w.heap.size) (hgB : 1 < B) :
    Calls Tryd.prog 5 #[.slice A (ls.length : Nat) c, .slice A' (os.length : Nat) c'] w (RetV (.bool true) w) := by
  have S0 := Lib.hid (S6.start hL hm hB)
  have HH := Lib.hid (fun w h1 h2 h3 => lHead B w h1 h2 h3 hgB)
  have HBB := Lib.hid hB
  by_cases hn : 60 < ls.length
  · have hnI : 60 < (ls.length : Int) := by omega
    clear hL hm hB hr hok hr'
    generalize ls.length = n at *
    go_enter Tryd.func5, Tryd.ntmps5
    go_wp2_with (go_at_call 10; refine (HH.out _ S0.out.l S0.out.m S0.out.b).mono ?_; rintro e w1 ⟨rfl, hb1⟩)
    go_ret
    exact ⟨rfl, hb1⟩
  · have hnI : ¬ 60 < (ls.length : Int) := by omega
    have HL := Lib.hid (fun w1 (hr : Reads w1 w1.heap.size 5 A ls.length (linesL ls)) h1 h2 => pLengths ls hok (by omega) A c B w1 hr h1 h2)
    have HR := Lib.hid hr
    have HO := Lib.hid (show Reads w w.heap.size 1 A' os.length (bcells os) from hr')
    by_cases he : checkE ls = 0
    · have hfit : Fit (opds ls) := opds_fit (by omega) fun x hx => (hok x hx).arg
      obtain ⟨ff, f1, f8⟩ := fixL_fix hfit
      have hFl : (fixL (opds ls)).length = ls.length := by rw [fixL_len hfit, opds_len]
      have HL0 := Lib.hid (fun w1 hr h1 h2 => (HL.out w1 hr h1 h2).mono fun e w' h => h.zero he)
      have HNE := Lib.hid (fun (L : List Nat) (hl : L.length = ls.length) (h9 : ∀ i, L.getD i 0 ≤ 9) A2 c2 w1 h1 h2 => rNeed ls hok he (by omega) hl h9 A A2 c c2 w1 h1 h2)
      have hlea := fun (m : List Nat) (hm : LE (needL (opds ls) m) m) => fixL_least hm
      have hpos : ∀ i, i < ls.length → 1 ≤ (fixL (opds ls)).getD i 0 := by
        intro i hi
        rw [← ff]
        exact needL_pos _ (by rw [opds_len]; exact hi)
      have hol := opds_len ls
      have hnl := fun L => needL_len (opds ls) L
      rw [hol] at hnl
      clear HL hL hm hB hr hr' hok hfit he f1 hol
      generalize opds ls = op at *
      obtain ⟨n, hnn⟩ : ∃ n, ls.length = n := ⟨_, rfl⟩
      obtain ⟨m, hmm⟩ : ∃ m, os.length = m := ⟨_, rfl⟩
      rw [hnn] at HR HL0 HNE hn hnI hFl hpos hnl ⊢
      rw [hmm] at HO ⊢
      obtain ⟨i0, hi0, hz0, hz1, hz2⟩ := info_parts int_info
      have FF := Lib.hid ff
      have F8 := Lib.hid f8
      have FL := Lib.hid hFl
      have FP := Lib.hid hpos
      have LEA := Lib.hid hlea
      have NLL := Lib.hid hnl
      generalize fixL op = F at *
      clear ff f8 hFl hpos hnn hmm hlea hnl
      go_enter Tryd.func5, Tryd.ntmps5
      go_wp2_with (first
        | (go_at_call 16; (with_reducible refine (HL0.out _ HR.out S0.out.l S0.out.b).mono ?_); rintro e w1 ⟨hb1, gn, rfl, hn1, hgn⟩
           have S1 := Lib.hid (S0.out.call hb1)
           have N1 := Lib.hid hn1
           clear hb1 hn1 HL0))
      go_loopw [7] (fun p wr => ∃ k : Nat, k ≤ n ∧ p = .int .i64 k ∧ ∃ q, wr = w1.drewN q) (fun p _ => n - (intOf p).toNat)
      case atStart => exact ⟨0, by omega, rfl, 0, rfl⟩
      case round =>
        obtain ⟨k, hk, rfl, q, rfl⟩ := hrel
        by_cases hlt : k < n
        · have hltI : (k : Int) < n := by omega
          have hF : F[k]? = some (F.getD k 0) := by
            have : k < F.length := by rw [FL.out]; exact hlt
            rw [List.getD_eq_getElem?_getD, List.getElem?_eq_getElem this]; rfl
          have c1 := ncell_at N1.out hF
          have p1 := FP.out k hlt
          have p8 := F8.out k
          generalize F.getD k 0 = fk at *
          have q1 : ¬ (fk : Int) < 1 := by omega
          have q8 : ¬ 8 < (fk : Int) := by omega
          clear hF
          go_wp2
          go_roundw
          case rel => exact ⟨k + 1, by omega, by go_num, q, rfl⟩
          case measure => simp [intOf]; omega
        · have hltI : ¬ (k : Int) < n := by omega
          obtain rfl : n = k := by omega
          have S2 := Lib.hid (S1.out.call ((Below.refl _ _).drewN' q))
          have N2 := Lib.hid (N1.out.drewN q)
          obtain ⟨w2, hw2⟩ : ∃ w2, w1.drewN q = w2 := ⟨_, rfl⟩
          rw [hw2] at S2 N2
          rw [hw2]
          clear hw2 N1 S1
          have HN1 := Lib.hid (HNE.out F FL.out (fun i => Nat.le_trans (F8.out i) (by decide)) (some ⟨gn, 0, none⟩) n w2 ((HR.out.below S2.out.k).more S2.out.k.size) (Reads.of_blk N2.out (by rw [ncells_len]; exact FL.out)))
          rw [FF.out] at HN1
          have M0 : Hid (∀ w : World, w.ownsRow w2.heap.size 3 1 (.slice none 0 0) 0 (ncells (moreL os 0))) := Lib.hid (fun _ => World.ownsRow_nil _ _ _ _)
          go_wp2_with (first
            | (go_at_call 18; (with_reducible refine HN1.out.mono ?_); intro e w3 hret; obtain ⟨A3, c3, rfl, hown3, hb3, hle3⟩ := hret.cell
               have S3 := Lib.hid (S2.out.call hb3)
               have N3 := Lib.hid (N2.out.call hb3)
               have HSI := Lib.hid (sInts (some ⟨gn, 0, none⟩) A3 n n n c3 F F w3 (Reads.of_blk N3.out (by rw [ncells_len]; exact FL.out)) (Reads.of_own hown3) (by omega))
               rw [decide_eq_true rfl] at HSI
               have h23 := hb3.size
               clear hown3 hb3)
            | (go_at_call 17; (with_reducible refine HSI.out.mono ?_); rintro e w4 ⟨rfl, hb4⟩
               have S4 := Lib.hid (S3.out.call hb4)
               have N4 := Lib.hid (N3.out.call hb4)
               have h24 : w2.heap.size ≤ w4.heap.size := Nat.le_trans h23 hb4.size
               have M4 := Lib.hid (M0.out w4)
               clear hb4))
          go_loopw [8, 9] (fun v p wr => ∃ k : Nat, k ≤ n ∧ p = .int .i64 k ∧ Hid (S6 B w wr) ∧ Hid (Blk wr gn 3 (ncells F).toArray) ∧ Hid (w2.heap.size ≤ wr.heap.size) ∧ Hid (wr.ownsRow w2.heap.size 3 1 v k (ncells (moreL os k)))) (fun _ p _ => n - (intOf p).toNat)
          case atStart => exact ⟨0, by omega, rfl, S4, N4, Lib.hid h24, M4⟩
          case round =>
            clear S4 N4 M4 h24
            obtain ⟨k, hk, rfl, S, N, HW, M⟩ := hrel
            have hgnl := N.out.lt
            have hgn2 : gn < w2.heap.size := N2.out.lt
            by_cases hlt : k < n
            · have hltI : (k : Int) < n := by omega
              by_cases hlo : k < m
              · have hloI : (k : Int) < m := by omega
                have hO2 := HO.out.below S.out.k
                obtain ⟨ob, oo, rfl, hob', hc⟩ := hO2.addr (by omega) (by omega)
                have hol : os.length = m := by have := HO.out.1; rw [bcells_len] at this; omega
                have hob : os[k]? = some (os[k]'(by omega)) := List.getElem?_eq_getElem (by omega)
                have hsn := moreL_snoc os k
                rw [hob] at hsn
                generalize os[k]'(by omega) = bt at *
                have ce := hc k _ (bcells_get hob)
                obtain ⟨r, hr⟩ : ∃ r, (bt.toNat : Int) % 9 = r := ⟨_, rfl⟩
                have hr0 : 0 ≤ r ∧ r ≤ 8 := by omega
                obtain ⟨r0, r8⟩ := hr0
                have hval : ncells (moreL os (k + 1)) = ncells (moreL os k) ++ [.int .i64 (1 + r)] := by
                  rw [hsn, ncells_append]
                  simp only [ncells, List.map_cons, List.map_nil]
                  congr 3
                  omega
                have HVAL := Lib.hid hval
                have hb255 : (bt.toNat : Int) ≤ 255 := by have := bt.toNat_lt; omega
                have hb0 : 0 ≤ (bt.toNat : Int) := by omega
                have b0 := Blk.new wr 3 #[.int .i64 (1 + r)]
                have M1 := Lib.hid (M.out.alloc (.cells #[.int .i64 (1 + r)] 3))
                have S1' := Lib.hid (S.out.alloc (.cells #[.int .i64 (1 + r)] 3))
                have N1' := Lib.hid (N.out.alloc (.cells #[.int .i64 (1 + r)] 3))
                have hws := HW.out
                have hwl : w.heap.size ≤ w2.heap.size := S2.out.k.size
                clear hsn hval hob hol hO2 hc
                generalize (bt.toNat : Int) = bti at *
                go_wp2_with (at_builtin; refine wpList_app_own rfl (.tmp 76) (.tmp 79) rfl Tryd.underlying37 hi0 hz0 hz1 hz2 rfl (by decide) M1.out (by simp; omega) rfl wr.heap.size 1 1 #[.int .i64 (1 + r)] rfl b0 rfl (by simp [Value.oneCell']) (by omega) (by omega) ?_; intro v' w5 hown hg hb)
                go_roundw
                case rel =>
                  exact ⟨k + 1, by omega, by go_num, Lib.hid (S1'.out.callB HBB.out (hb.mono hwl)), Lib.hid (N1'.out.below hb hgn2), Lib.hid (Nat.le_trans hws (by have := hg.size; simp at this; omega)), Lib.hid (by rw [HVAL.out]; exact hown)⟩
                case measure => simp [intOf]; omega
              · have hloI : ¬ (k : Int) < m := by omega
                have hol : os.length = m := by have := HO.out.1; rw [bcells_len] at this; omega
                have hsn := moreL_snoc os k
                rw [List.getElem?_eq_none (show os.length ≤ k by omega)] at hsn
                have hval : ncells (moreL os (k + 1)) = ncells (moreL os k) ++ [.int .i64 1] := by
                  rw [hsn, ncells_append]; rfl
                have HVAL := Lib.hid hval
                have b0 := Blk.new wr 3 #[.int .i64 1]
                have M1 := Lib.hid (M.out.alloc (.cells #[.int .i64 1] 3))
                have S1' := Lib.hid (S.out.alloc (.cells #[.int .i64 1] 3))
                have N1' := Lib.hid (N.out.alloc (.cells #[.int .i64 1] 3))
                have hws := HW.out
                have hwl : w.heap.size ≤ w2.heap.size := S2.out.k.size
                clear hsn hval hol
                go_wp2_with (at_builtin; refine wpList_app_own rfl (.tmp 76) (.tmp 79) rfl Tryd.underlying37 hi0 hz0 hz1 hz2 rfl (by decide) M1.out (by simp; omega) rfl wr.heap.size 1 1 #[.int .i64 1] rfl b0 rfl (by simp [Value.oneCell']) (by omega) (by omega) ?_; intro v' w5 hown hg hb)
                go_roundw
                case rel =>
                  exact ⟨k + 1, by omega, by go_num, Lib.hid (S1'.out.callB HBB.out (hb.mono hwl)), Lib.hid (N1'.out.below hb hgn2), Lib.hid (Nat.le_trans hws (by have := hg.size; simp at this; omega)), Lib.hid (by rw [HVAL.out]; exact hown)⟩
                case measure => simp [intOf]; omega
            · have hltI : ¬ (k : Int) < n := by omega
              obtain rfl : n = k := by omega
              obtain ⟨am, cm, rfl⟩ := own_form M.out
              have HML := Lib.hid (moreL_len os n)
              have HM9 := Lib.hid (fun i => moreL_get (os := os) (n := n) (i := i))
              generalize moreL os n = ML at *
              have HN2 := Lib.hid (HNE.out ML HML.out HM9.out am cm wr ((HR.out.below S.out.k).more S.out.k.size) (Reads.of_own M.out))
              have HNLL := Lib.hid (NLL.out ML)
              have HLEA := Lib.hid (LEA.out ML)
              generalize needL op ML = NL at *
              go_wp2_with (go_at_call 18; (with_reducible refine HN2.out.mono ?_); intro e w5 hret; obtain ⟨A5, c5, rfl, hown5, hb5, hle5⟩ := hret.cell
                           have S5' := Lib.hid (S.out.call hb5)
                           have N5 := Lib.hid (N.out.call hb5)
                           have M5 := Lib.hid (M.out.keep hb5 (Nat.le_refl _))
                           have D5 := Lib.hid hown5
                           clear hown5 hb5)
              go_loopw [12] (fun p wv => ∃ j : Nat, j ≤ n ∧ p = .int .i64 j ∧ (∃ q, wv = w5.drewN q) ∧ Hid (∀ i, i < j → NL.getD i 0 ≤ ML.getD i 0)) (fun p _ => n - (intOf p).toNat)
              case atStart => exact ⟨0, by omega, rfl, ⟨0, rfl⟩, Lib.hid (by intro i hi; omega)⟩
              case round =>
                obtain ⟨j, hj, rfl, ⟨q5, rfl⟩, HLT⟩ := hrel
                by_cases hjt : j < n
                · have hjtI : (j : Int) < n := by omega
                  obtain ⟨bm, om, xm, rfl, -, hxm, cxm⟩ := nums_at (Reads.of_own M5.out) hjt
                  obtain ⟨bn, on_, xn, rfl, -, hxn, cxn⟩ := nums_at (Reads.of_own D5.out) hjt
                  have em : ML.getD j 0 = xm := by rw [List.getD_eq_getElem?_getD, hxm]; rfl
                  have en : NL.getD j 0 = xn := by rw [List.getD_eq_getElem?_getD, hxn]; rfl
                  have EM := Lib.hid em
                  have EN := Lib.hid en
                  clear em en hxm hxn
                  by_cases hgt : (xm : Int) < xn
                  · go_wp2
                    go_quiet (fail)
                    go_wp2_with (go_at_call 10; refine (HH.out _ (S5'.out.call ((Below.refl _ _).drewN' _)).l (S5'.out.call ((Below.refl _ _).drewN' _)).m (S5'.out.call ((Below.refl _ _).drewN' _)).b).mono ?_; rintro e w6 ⟨rfl, hb6⟩)
                    go_ret
                    exact ⟨rfl, ((S5'.out.call ((Below.refl _ _).drewN' _)).call hb6).k⟩
                  · go_wp2
                    go_quiet (fail)
                    go_wp2
                    go_roundw
                    case rel =>
                      refine ⟨j + 1, by omega, by go_num, ⟨_, rfl⟩, Lib.hid ?_⟩
                      intro i hi
                      by_cases e : i = j
                      · subst e; rw [EM.out, EN.out]; omega
                      · exact HLT.out i (by omega)
                    case measure => simp [intOf]; omega
                · have hjtI : ¬ (j : Int) < n := by omega
                  obtain rfl : n = j := by omega
                  have hle : LE NL ML := ⟨by rw [HNLL.out, HML.out], fun i => by
                    rcases Nat.lt_or_ge i n with h | h
                    · exact HLT.out i h
                    · have e1 : NL.getD i 0 = 0 := by rw [List.getD_eq_getElem?_getD, List.getElem?_eq_none (by rw [HNLL.out]; exact h)]; rfl
                      rw [e1]; exact Nat.zero_le _⟩
                  have HFM := Lib.hid (HLEA.out hle)
                  clear hle
                  go_wp2
                  go_loopw [13] (fun p wv => ∃ j : Nat, j ≤ n ∧ p = .int .i64 j ∧ (∃ q, wv = w5.drewN q)) (fun p _ => n - (intOf p).toNat)
                  case atStart => exact ⟨0, by omega, rfl, ⟨_, rfl⟩⟩
                  case round =>
                    obtain ⟨j, hj, rfl, ⟨q6, rfl⟩⟩ := hrel
                    by_cases hjt : j < n
                    · have hjtI : (j : Int) < n := by omega
                      obtain ⟨bm, om, xm, rfl, -, hxm, cxm⟩ := nums_at (Reads.of_own M5.out) hjt
                      have hF : F[j]? = some (F.getD j 0) := by
                        have : j < F.length := by rw [FL.out]; exact hjt
                        rw [List.getD_eq_getElem?_getD, List.getElem?_eq_getElem this]; rfl
                      have cf := ncell_at N5.out hF
                      have hle := HFM.out.2 j
                      have em : ML.getD j 0 = xm := by rw [List.getD_eq_getElem?_getD, hxm]; rfl
                      rw [em] at hle
                      clear em hxm hF
                      generalize F.getD j 0 = fj at *
                      have hng : ¬ (xm : Int) < fj := by omega
                      go_wp2
                      go_quiet (fail)
                      go_wp2
                      go_roundw
                      case rel => exact ⟨j + 1, by omega, by go_num, ⟨_, rfl⟩⟩
                      case measure => simp [intOf]; omega
                    · have hjtI : ¬ (j : Int) < n := by omega
                      obtain rfl : n = j := by omega
                      go_wp2_with (go_at_call 10; refine (HH.out _ (S5'.out.call ((Below.refl _ _).drewN' _)).l (S5'.out.call ((Below.refl _ _).drewN' _)).m (S5'.out.call ((Below.refl _ _).drewN' _)).b).mono ?_; rintro e w6 ⟨rfl, hb6⟩)
                      go_ret
                      exact ⟨rfl, ((S5'.out.call ((Below.refl _ _).drewN' _)).call hb6).k⟩
    · have HL0 := Lib.hid (fun w1 hr h1 h2 => (HL.out w1 hr h1 h2).mono fun e w' h => h.not he)
      have hne : (checkE ls != 0) = true := by simpa using he
      clear HL hL hm hB hr he hok
      generalize checkE ls = ee at *
      generalize ls.length = n at *
      go_enter Tryd.func5, Tryd.ntmps5
      go_wp2_with (first
        | (go_at_call 16; (with_reducible refine (HL0.out _ HR.out S0.out.l S0.out.b).mono ?_); rintro e w1 ⟨hb1, rfl⟩
           have S1 := Lib.hid (S0.out.call hb1)
           clear hb1 HL0)
        | (go_at_call 10; refine (HH.out _ S1.out.l S1.out.m S1.out.b).mono ?_; rintro e w6 ⟨rfl, hb6⟩))
      go_ret
      exact ⟨rfl, (S1.out.call hb6).k⟩
end Go.Proofs.YtjnngeakdclkbaaDoor
