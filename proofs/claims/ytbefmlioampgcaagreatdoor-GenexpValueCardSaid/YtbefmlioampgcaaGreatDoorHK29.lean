/- Texts that belong together, joined: what each one holds is told ahead of it. -/
import Derived.Test.YtbefmlioampgcaaGreatDoorHK28
import Derived.Test.YtbefmlioampgcaaGreatDoorHK10
set_option linter.unusedVariables false
set_option linter.unusedSimpArgs false
/- The document's Stores, walked. -/
namespace Go.Proofs.YtbefmlioampgcaaGreatDoor
open Go.RowKit
set_option linter.unusedVariables false
set_option linter.unusedSimpArgs false

set_option maxRecDepth 100000 in
set_option maxHeartbeats 8000000 in
theorem rStores25 (g : EmL) (ss : List RwL) (As : Option Addr) (cs B : Nat) (w : World) (hv : VarsIn g w B) (hs : rwsIn w B As ss) (hB : B ≤ w.heap.size) :
    Calls Tryz.prog 13 #[.slice g.Av g.vars.length g.cv, .slice As ss.length cs] w (RetV (.bool (storeB g.vars ss)) w) := by
  have hvl : lenOk g.vars := hv.1
  have hsl : lenOk ss := hs.1
  unfold lenOk at hvl hsl
  have HV := Lib.hid hv
  have HS := Lib.hid hs
  have HB := Lib.hid hB
  obtain ⟨R, hR⟩ : ∃ R, storeB g.vars ss = R := ⟨_, rfl⟩
  have HIF : ss.length = g.vars.length → (R = true ↔ ∀ (k : Nat) (x : KVar) (r : RwL), g.vars[k]? = some x → ss[k]? = some r → (r.l.length : Int) = max 1 x.dim ∧ r.l.all (fun v => fitW x.kind v) = true) := fun h => by rw [← hR]; exact storeB_iff h
  have HLN : ¬ ss.length = g.vars.length → R = false := fun h => by
    cases R with
    | false => rfl
    | true => exact absurd (storeB_len hR) h
  rw [hR]
  obtain ⟨nv, hnv⟩ : ∃ n, g.vars.length = n := ⟨_, rfl⟩
  obtain ⟨ns, hns⟩ : ∃ n, ss.length = n := ⟨_, rfl⟩
  have HNV := Lib.hid hnv
  have HNS := Lib.hid hns
  rw [hnv] at hvl HIF HLN ⊢
  rw [hns] at hsl HIF HLN ⊢
  generalize g.cv = CV at *
  clear hR hv hs hB hnv hns
  by_cases hne : ns = nv
  · have hneI : ((ns : Int) != nv) = false := by simp; omega
    have HIF2 := Lib.hid (HIF hne)
    clear HIF HLN
    subst hne
    go_enter Tryz.func13, Tryz.ntmps13
    go_wp2
    go_loopw [5] (fun i wr => ∃ k : Nat, k ≤ ns ∧ i = .int .i64 k ∧ Hid (∀ (j : Nat) (x : KVar) (r : RwL), j < k → g.vars[j]? = some x → ss[j]? = some r → (r.l.length : Int) = max 1 x.dim ∧ r.l.all (fun v => fitW x.kind v) = true) ∧ Hid (Below w.heap.size w wr)) (fun i _ => ns - (intOf i).toNat)
    case atStart => exact ⟨0, Nat.zero_le _, rfl, Lib.hid (by intro j x r h; omega), Lib.hid (Below.refl _ _)⟩
    case round =>
      obtain ⟨k, hk, rfl, HT, HBR⟩ := hrel
      obtain ⟨wo, hwo⟩ : ∃ wo : World, wo = wr := ⟨_, rfl⟩
      rw [← hwo] at HBR ⊢
      clear hwo
      have hwr := HBR.out.size
      by_cases hltk : k < ns
      · have hltI : (k : Int) < ns := by omega
        have hbW : Below B w wo := HBR.out.mono HB.out
        obtain ⟨bv, ov, x, hA, hbv, hx, hdo, hk255, v0, v1⟩ := var_at0 (HV.out.below hbW) (k := k) (by rw [HNV.out]; exact hltk)
        obtain ⟨bs, os, r, hAs, hbs, hr, hri, s0⟩ := rws_at (HS.out.below hbW) (k := k) (by rw [HNS.out]; exact hltk)
        have HX := Lib.hid hx
        have HR := Lib.hid hr
        have HRI := Lib.hid hri
        have hrl := hri.1
        unfold lenOk at hrl
        obtain ⟨ι, F, i0', h0', hFb, hcl⟩ := fam_below wo
        haveI : Nonempty ι := ⟨i0'⟩
        have zv : bv < wo.heap.size := by have := HB.out; omega
        have zs : bs < wo.heap.size := by have := HB.out; omega
        have V1 : ∀ i, (F i).cell? ⟨bv, ov + k * 2 + 1, none⟩ = _ := fun i => ((bcell (hFb i)).1 _ _ zv).trans v1
        have S0 : ∀ i, (F i).cell? ⟨bs, os + k, none⟩ = _ := fun i => ((bcell (hFb i)).1 _ _ zs).trans s0
        have HFB := Lib.hid hFb
        obtain ⟨D, hD⟩ : ∃ D, x.dim = D := ⟨_, rfl⟩
        rw [hD] at V1 v1 hdo
        have HD := Lib.hid hD
        obtain ⟨L, hL⟩ : ∃ L, r.l.length = L := ⟨_, rfl⟩
        rw [hL] at S0 s0 hrl
        have HL := Lib.hid hL
        obtain ⟨M, hM⟩ : ∃ M : Int, max 1 D = M := ⟨_, rfl⟩
        have HM := Lib.hid hM
        rw [hA, hAs]
        clear hx hr hri hD hL hFb
        by_cases hLM : (L : Int) = M
        · go_upto_region 6 with (fail)
          go_cut [29] (fun s wx => s = .bool false ∧ ∃ i, wx = F i)
          case first =>
            refine wp_region_quiet_fam F i0' h0' (by kernel_rfl) (by kernel_rfl) ?_
            repeat (go_big_quiet_step (fail))
            refine wpQuiet_nil ?_
            intro i
            go_wp2
            go_meet
            exact ⟨by first | trivial | rfl, i, rfl⟩
          case rest =>
            obtain ⟨rfl, i1, rfl⟩ := hcut
            have HLM := Lib.hid hLM
            have HKW := Lib.hid (HBR.out.trans ((HFB.out i1).mono hwr))
            obtain ⟨wj, hwj⟩ : ∃ wj : World, wj = F i1 := ⟨_, rfl⟩
            rw [← hwj] at HKW ⊢
            clear hLM hwj h0' hcl V1 S0 HFB v1 s0 hM zv zs
            clear F i0' i1
            go_wp2
            go_loopw [6] (fun i wr => ∃ j : Nat, j ≤ L ∧ i = .int .i64 j ∧ Hid ((r.l.take j).all (fun v => fitW x.kind v) = true) ∧ Hid (Below w.heap.size w wr)) (fun i _ => L - (intOf i).toNat)
            case atStart => exact ⟨0, Nat.zero_le _, rfl, Lib.hid (by rw [List.take_zero]; rfl), HKW⟩
            case round =>
              obtain ⟨j, hj, rfl, HJ, HB2⟩ := hrel
              have hwr2 := HB2.out.size
              obtain ⟨ι, F, i0', h0', hFb, hcl⟩ := fam_below wr
              haveI : Nonempty ι := ⟨i0'⟩
              have hbW2 : Below B w wr := HB2.out.mono HB.out
              obtain ⟨bv2, ov2, x2, hA2, hbv2, hx2, -, hk255, v0', -⟩ := var_at0 (HV.out.below hbW2) (k := k) (by rw [HNV.out]; exact hltk)
              obtain ⟨bs2, os2, r2, hAs2, hbs2, hr2, hri2, s0'⟩ := rws_at (HS.out.below hbW2) (k := k) (by rw [HNS.out]; exact hltk)
              obtain ⟨rfl, rfl⟩ : bv2 = bv ∧ ov2 = ov := by have h := hA2.symm.trans hA; simp at h; exact h
              obtain ⟨rfl, rfl⟩ : bs2 = bs ∧ os2 = os := by have h := hAs2.symm.trans hAs; simp at h; exact h
              obtain rfl : x2 = x := by have h := hx2.symm.trans HX.out; exact Option.some.inj h
              obtain rfl : r2 = r := by have h := hr2.symm.trans HR.out; exact Option.some.inj h
              have zv : bv2 < wr.heap.size := by have := HB.out; omega
              have zs : bs2 < wr.heap.size := by have := HB.out; omega
              rw [HL.out] at s0'
              by_cases hltj : j < L
              · have hltJ : (j : Int) < L := by omega
                obtain ⟨br, or, v, hAr, hbr, hvj, hv32, c0⟩ := rw_at hri2 (k := j) (by rw [HL.out]; exact hltj)
                have zr : br < wr.heap.size := by have := HB.out; omega
                rw [hAr] at s0'
                have V0 : ∀ i, (F i).cell? ⟨bv2, ov2 + k * 2, none⟩ = _ := fun i => ((bcell (hFb i)).1 _ _ zv).trans v0'
                have S0 : ∀ i, (F i).cell? ⟨bs2, os2 + k, none⟩ = _ := fun i => ((bcell (hFb i)).1 _ _ zs).trans s0'
                have C0 : ∀ i, (F i).cell? ⟨br, or + j, none⟩ = _ := fun i => ((bcell (hFb i)).1 _ _ zr).trans c0
                have HFB := Lib.hid hFb
                obtain ⟨KD, hKD⟩ : ∃ K : Int, (x2.kind : Int) = K := ⟨_, rfl⟩
                rw [hKD] at V0
                obtain ⟨P, hP⟩ : ∃ P, fitW KD v = P := ⟨_, rfl⟩
                have HC : Hid (∀ i, Calls Tryz.prog 33 #[.int .u8 KD, .int .i32 v] (F i) (RetQ (.bool P) (F i))) := Lib.hid fun i => by rw [← hP]; exact rFits25 KD v (F i)
                have HP : Hid (fitW x2.kind v = P) := Lib.hid (by rw [hKD]; exact hP)
                have HVJ := Lib.hid hvj
                clear hFb hKD hP hvj hA2 hAs2 hx2 hr2 hri2 hA hAs v0' c0 hAr
                cases P
                · have HRN : Hid (R = false) := Lib.hid (by
                    cases hRR : R with
                    | false => rfl
                    | true =>
                      have h1 := (HIF2.out.1 hRR k x2 r2 HX.out HR.out).2
                      have h2 := List.all_eq_true.1 h1 v (List.mem_of_getElem? HVJ.out)
                      rw [HP.out] at h2
                      cases h2)
                  go_wp2
                  refine wp_region_quiet_fam F i0' h0' (by kernel_rfl) (by kernel_rfl) ?_
                  repeat (go_big_quiet_step (first | (go_at_call 33; (with_reducible refine (HC.out _).mono ?_); rintro e3 w3 ⟨rfl, rfl⟩; exact ⟨rfl, _, rfl⟩)))
                  refine wpQuiet_nil ?_
                  intro i
                  go_wp2
                  go_ret
                  exact ⟨by rw [HRN.out]; rfl, HB2.out.trans ((HFB.out i).mono hwr2)⟩
                · go_wp2
                  refine wp_region_quiet_fam F i0' h0' (by kernel_rfl) (by kernel_rfl) ?_
                  repeat (go_big_quiet_step (first | (go_at_call 33; (with_reducible refine (HC.out _).mono ?_); rintro e3 w3 ⟨rfl, rfl⟩; exact ⟨rfl, _, rfl⟩)))
                  refine wpQuiet_nil ?_
                  intro i
                  go_wp2
                  go_roundw
                  case rel => exact ⟨j + 1, by omega, by go_num, Lib.hid (by rw [List.take_add_one, HVJ.out]; simp only [Option.toList_some, List.all_append, List.all_cons, List.all_nil, Bool.and_true, Bool.and_eq_true]; exact ⟨HJ.out, HP.out⟩), Lib.hid (HB2.out.trans ((HFB.out i).mono hwr2))⟩
                  case measure => simp [intOf]; omega
              · have hltJ : ¬ (j : Int) < L := by omega
                obtain rfl : j = L := by omega
                have HALL : Hid ((r2.l.length : Int) = max 1 x2.dim ∧ r2.l.all (fun v => fitW x2.kind v) = true) := Lib.hid ⟨by rw [HL.out, HD.out, HM.out]; exact HLM.out, by rw [← HJ.out, List.take_of_length_le (by rw [HL.out]; exact Nat.le_refl _)]⟩
                clear hA2 hAs2 hx2 hr2 hri2 hA hAs h0' hFb hcl
                clear F i0'
                go_wp2
                go_roundw
                case rel => exact ⟨k + 1, by omega, by go_num, Lib.hid (by
                  intro q x r hq hx hr
                  by_cases h : q = k
                  · subst h
                    obtain rfl : x2 = x := Option.some.inj (HX.out.symm.trans hx)
                    obtain rfl : r2 = r := Option.some.inj (HR.out.symm.trans hr)
                    exact HALL.out
                  · exact HT.out q x r (by omega) hx hr), HB2⟩
                case measure => simp [intOf]; omega
        · have hLMb : ((L : Int) != M) = true := by simpa using hLM
          have HRN : Hid (R = false) := Lib.hid (by
            cases hRR : R with
            | false => rfl
            | true =>
              have h1 := (HIF2.out.1 hRR k x r HX.out HR.out).1
              rw [HL.out, HD.out, HM.out] at h1
              exact absurd h1 hLM)
          clear hLM
          go_wp2
          refine wp_region_quiet_fam F i0' h0' (by kernel_rfl) (by kernel_rfl) ?_
          repeat (go_big_quiet_step (fail))
          refine wpQuiet_nil ?_
          intro i
          go_wp2
          go_ret
          exact ⟨by rw [HRN.out]; rfl, HBR.out.trans ((HFB.out i).mono hwr)⟩
      · have hltI : ¬ (k : Int) < ns := by omega
        obtain rfl : k = ns := by omega
        have HRT : Hid (R = true) := Lib.hid (HIF2.out.2 fun j x r hx hr => HT.out j x r (by have := (List.getElem?_eq_some_iff.1 hx).1; have := HNV.out; omega) hx hr)
        go_wp2
        go_ret
        exact ⟨by rw [HRT.out]; rfl, HBR.out⟩
  · have hneI : ((ns : Int) != nv) = true := by simp; omega
    obtain rfl := HLN hne
    go_enter Tryz.func13, Tryz.ntmps13
    go_wp2
    go_ret
    exact ⟨rfl, Below.refl _ _⟩
end Go.Proofs.YtbefmlioampgcaaGreatDoor

/- The law's mark, walked. -/
namespace Go.Proofs.YtbefmlioampgcaaGreatDoor
open Go.RowKit
set_option linter.unusedVariables false
set_option linter.unusedSimpArgs false

/-- The two rows of words. -/
def WoAt (w : World) (gw go : Nat) (Aw Ao : Option Addr) (n : Nat) (s : Wo) : Prop :=
  WoOk n s ∧ (0 < n → (Aw = some ⟨gw, 0, none⟩ ∧ RowW w gw 21 (wordsC s.1)) ∧ (Ao = some ⟨go, 0, none⟩ ∧ RowW w go 3 (intsV s.2)))
theorem WoAt.call {w w' : World} {gw go n : Nat} {Aw Ao : Option Addr} {s : Wo} (h : WoAt w gw go Aw Ao n s) (hb : Below w.heap.size w w') : WoAt w' gw go Aw Ao n s :=
  ⟨h.1, fun hn => ⟨⟨(h.2 hn).1.1, (h.2 hn).1.2.call hb⟩, ⟨(h.2 hn).2.1, (h.2 hn).2.2.call hb⟩⟩⟩
theorem Upd2.of_below {s g : Nat} {w w' : World} (h : Below w.heap.size w w') : Upd2 s g w w' := ⟨h.os, h.tape, h.output, h.size, fun i hi _ => h.block i hi⟩
theorem Upd2.blk {s g k : Nat} {t : TypeId} {cs : Array Value} {w w' : World} (h : Upd2 s g w w') (hb : Blk w k t cs) (h1 : k ≠ s) (h2 : k ≠ g) : Blk w' k t cs :=
  (h.block k hb.lt (by rintro (e | e) <;> contradiction)).trans hb
theorem Upd2.drew_to {s g : Nat} {w w' : World} (h : Upd2 s g w.drew w') : Upd2 s g w w' := (Upd2.of_below (Below.refl _ _).drew).trans h
theorem Upd2.drewN_ {s g : Nat} (w : World) (k : Nat) : Upd2 s g w (w.drewN k) := Upd2.of ((UpdB.refl s w).drewN k)
theorem intsV_set (m : List Int) (k : Nat) (v : Int) : intsV (m.set k v) = (intsV m).set k (.int .i64 v) := by simp [intsV, List.map_set]
/-- What a part wants of the rows. -/
def MarkOk (g : EmL) (ss : List RwL) (n : Nat) (x : KE) : Prop :=
  (x.kind = 2 ∨ x.kind = 3) → ∃ (a k : Nat) (r : RwL), varL g.s g.frame x.v = some (a : Int) ∧ x.v = (k : Nat) ∧ k < 256 ∧ ss[k]? = some r ∧ a + r.l.length ≤ n ∧ 0 < n
/-- What mark leaves. -/
def RetMark (o : Option Wo) (gw go : Nat) (Aw Ao : Option Addr) (n : Nat) (w : World) (en : Ending) (w' : World) : Prop :=
  en = .returned (.bool o.isSome) ∧ Upd2 gw go w w' ∧ ∀ s', o = some s' → WoAt w' gw go Aw Ao n s'
theorem putV_cons (v : Int) (a : Nat) (l : List Int) (k : Nat) (x : Int) (s : Wo) (hx : l[k]? = some x) : putV v (a + k) (l.drop k) s = if s.2.getD (a + k) 0 ≠ 0 ∧ s.2.getD (a + k) 0 ≠ v + 1 then none else putV v (a + (k + 1)) (l.drop (k + 1)) (s.1.set (a + k) x, s.2.set (a + k) (v + 1)) := by
  obtain ⟨h1, h2⟩ := List.getElem?_eq_some_iff.1 hx
  rw [List.drop_eq_getElem_cons h1, h2, putV]
  rfl
def markR (g : EmL) (ss : List RwL) (l : List KE) : Option Wo → Option Wo
  | none => none
  | some s => markL g ss l s
theorem markE_R (g : EmL) (ss : List RwL) (e : KE) (s : Wo) : markE g ss e s = markR g ss e.l (mark0 g ss e s) := by
  rw [markE_eq]
  cases mark0 g ss e s <;> rfl
set_option maxRecDepth 100000 in
set_option maxHeartbeats 8000000 in
theorem lMark (g : EmL) (ss : List RwL) (As : Option Addr) (cs : Nat) (E : KE) (temp : Int) (gw go : Nat) (hgo : gw ≠ go) (Aw Ao : Option Addr) (cw co n : Nat) (hn5 : n ≤ 5000) (hf64 : i64ok g.frame) (e : KE) : e.all (MarkOk g ss n) →
    ∀ (s : Wo) (B : Nat) (w : World), e.In w B → g.s.In w B → rwsIn w B As ss → B ≤ gw → B ≤ go → gw < w.heap.size → go < w.heap.size → B ≤ w.heap.size → WoAt w gw go Aw Ao n s →
    Calls Tryz.prog 16 #[.agg e.cells, .agg (caseC g E temp), .slice As ss.length cs, .slice Aw n cw, .slice Ao n co] w (RetMark (markE g ss e s) gw go Aw Ao n w) := by
  induction e using KE.ind with
  | h e ih =>
    intro hall s B w hi hn hsi hBw hBo hgw hgo2 hB hwo
    obtain ⟨hok, hfl⟩ := KE.all_iff.1 hall
    obtain ⟨W0, hW0⟩ : ∃ W, (w.alloc (.cells e.cells 27)).alloc (.cells (caseC g E temp) 34) = W := ⟨_, rfl⟩
    have K0 : Below w.heap.size w W0 := by rw [← hW0]; exact below_2 w _ _
    have b0 : Blk W0 w.heap.size 27 e.cells := by rw [← hW0]; exact (Blk.new w _ _).alloc _
    have b1 : Blk W0 (w.heap.size + 1) 34 (caseC g E temp) := by rw [← hW0]; exact blk_2 w _ _ _
    have hi0 := hi.below (K0.mono hB)
    have hn0 := hn.below (K0.mono hB)
    have hs0 := hsi.below (K0.mono hB)
    have HWO := Lib.hid (hwo.call K0)
    have hBW : B ≤ W0.heap.size := Nat.le_trans hB K0.size
    have hRE := markE_R g ss e s
    obtain ⟨R, hR⟩ : ∃ R, markE g ss e s = R := ⟨_, rfl⟩
    rw [hR] at hRE ⊢
    have HI := Lib.hid hi0
    have HSI := Lib.hid hs0
    have HIH : Hid (∀ x ∈ e.l, ∀ (s : Wo) (W : World), Below B W0 W → B ≤ W.heap.size → gw < W.heap.size → go < W.heap.size → WoAt W gw go Aw Ao n s → Calls Tryz.prog 16 #[.agg x.cells, .agg (caseC g E temp), .slice As ss.length cs, .slice Aw n cw, .slice Ao n co] W (RetMark (markE g ss x s) gw go Aw Ao n W)) := Lib.hid fun x hx s W hb hs h1 h2 h3 =>
      ih x hx (hfl x hx) s B W ((hi0.part hx).below hb) (hn0.below hb) (hs0.below hb) hBw hBo h1 h2 hs h3
    have HV : Hid (Calls Tryz.prog 35 #[.agg g.s.cells, .int .i64 g.frame, .int .i64 e.v] W0 (RetV (spotV (varL g.s g.frame e.v)) W0)) := Lib.hid (rOffset25 g.s g.frame e.v B W0 hn0 hBW hf64 hi.one.1.2.2.2.2.1)
    have hlen : lenOk e.l := hi.one.1.2.2.2.2.2
    have hsl : lenOk ss := hsi.1
    unfold lenOk at hlen hsl
    have HK0 := Lib.hid K0
    have HBW := Lib.hid hBW
    have HB0 := Lib.hid b0
    have HB1 := Lib.hid b1
    have HG1 := Lib.hid hBw
    have HG2 := Lib.hid hBo
    have hne1 : ¬ gw = w.heap.size := by omega
    have hne2 : ¬ go = w.heap.size := by omega
    have hne3 : ¬ gw = w.heap.size + 1 := by omega
    have hne4 : ¬ go = w.heap.size + 1 := by omega
    have HNE : Hid (w.heap.size ≠ gw ∧ w.heap.size ≠ go ∧ w.heap.size + 1 ≠ gw ∧ w.heap.size + 1 ≠ go) := Lib.hid ⟨by omega, by omega, by omega, by omega⟩
    simp only [caseC, KE.cells] at HIH b1 hW0 HB1 ⊢
    simp only [SpL.cells] at HV
    unfold spotV at HV
    simp only [KE.cells] at b0 HB0
    have c0 := b0.cell 0
    have c1 := b0.cell 1
    have c2 := b0.cell 2
    have c3 := b0.cell 3
    have c4 := b0.cell 4
    have c5 := b0.cell 5
    simp at c0 c1 c2 c3 c4 c5
    have d0 := b1.cell 0
    have d1 := b1.cell 1
    have d2 := b1.cell 2
    have d3 := b1.cell 3
    have d4 := b1.cell 4
    have d5 := b1.cell 5
    have d6 := b1.cell 6
    have d7 := b1.cell 7
    have d8 := b1.cell 8
    have d9 := b1.cell 9
    have d10 := b1.cell 10
    have d11 := b1.cell 11
    have d12 := b1.cell 12
    have d13 := b1.cell 13
    have d14 := b1.cell 14
    simp at d0 d1 d2 d3 d4 d5 d6 d7 d8 d9 d10 d11 d12 d13 d14
    have hlt := b0.lt
    have hlt1 := b1.lt
    have HGW : Hid (gw < W0.heap.size ∧ go < W0.heap.size) := Lib.hid ⟨Nat.lt_of_lt_of_le hgw K0.size, Nat.lt_of_lt_of_le hgo2 K0.size⟩
    have hgW : gw < W0.heap.size := Nat.lt_of_lt_of_le hgw K0.size
    have hgO : go < W0.heap.size := Nat.lt_of_lt_of_le hgo2 K0.size
    obtain ⟨K, hK⟩ : ∃ K : Int, (e.kind : Int) = K := ⟨_, rfl⟩
    rw [hK] at c0 hW0 HB0 ⊢
    generalize strB g.label = SLB at *
    clear hi hn hsi hB ih hall hfl b0 b1 hi0 hn0 hs0 hR K0 hBW hf64 hwo hBw hBo hgw hgo2
    by_cases hk : K = 2 ∨ K = 3
    · obtain ⟨a, v, r, hva, hev, hv256, hr, har, hn0⟩ := hok (by omega)
      have hm0 : mark0 g ss e s = putV v a r.l s := by
        unfold mark0
        rw [if_pos (by omega), hev]
        unfold varD
        rw [← hev, hva, hev, Int.toNat_natCast, List.getD_eq_getElem?_getD, hr]
        rfl
      rw [hm0] at hRE
      rw [hva] at HV
      rw [hev] at HV c4 hW0 HB0 ⊢
      simp only [Option.getD_some, Option.isSome_some] at HV
      have HRE := Lib.hid hRE
      have HAR := Lib.hid har
      have hvs : v < ss.length := (List.getElem?_eq_some_iff.1 hr).1
      obtain ⟨bs, os, r', hAs, hbs, hr', hri, sc⟩ := rws_at HSI.out hvs
      obtain rfl : r' = r := by rw [hr] at hr'; exact (Option.some.inj hr').symm
      have hbs0 : bs < W0.heap.size := Nat.lt_of_lt_of_le hbs HBW.out
      have HRI := Lib.hid hri
      have hne5 : ¬ gw = bs := by have := HG1.out; omega
      have hne6 : ¬ go = bs := by have := HG2.out; omega
      obtain ⟨⟨rfl, -⟩, ⟨rfl, -⟩⟩ := HWO.out.2 hn0
      have hrl := hri.1
      unfold lenOk at hrl
      obtain ⟨L, hL⟩ : ∃ L, r'.l.length = L := ⟨_, rfl⟩
      have HL := Lib.hid hL
      rw [hL] at sc har hrl
      rw [hAs] at HIH ⊢
      obtain ⟨ns, hns⟩ : ∃ m, ss.length = m := ⟨_, rfl⟩
      rw [hns] at HIH hvs hsl ⊢
      have hvsI : (v : Int) < ns := by omega
      have hanI : (a : Int) + L ≤ n := by omega
      clear hRE hm0 hva hev hr hr' hri hL hok hns hAs
      go_enter Tryz.func16, Tryz.ntmps16
      go_upto_region 1 with (fail)
      go_cut [22] (fun x wx => x = .bool true ∧ wx = W0)
      case first =>
        rcases hk with rfl | rfl
        all_goals
          go_wp2
          go_meet
          exact ⟨rfl, rfl⟩
      case rest =>
        obtain ⟨rfl, hwc⟩ := hcut
        rw [hwc]
        clear hwc
        go_wp2_with first
          | (go_at_call 35; (with_reducible refine HV.out.mono ?_); rintro e2 w2 ⟨rfl, hb2⟩
             have KS2 := Lib.hid hb2
             clear hb2)
        have HST : Hid (WoAt w2 gw go (some ⟨gw, 0, none⟩) (some ⟨go, 0, none⟩) n s) := Lib.hid (HWO.out.call KS2.out)
        have HUT : Hid (Upd2 gw go W0 w2) := Lib.hid (Upd2.of_below KS2.out)
        obtain ⟨RP, hRP⟩ : ∃ p, putV v a r'.l s = p := ⟨_, rfl⟩
        have HREP : Hid (R = markR g ss e.l RP) := Lib.hid (by rw [← hRP]; exact HRE.out)
        have HP0 : Hid (putV v (a + 0) (r'.l.drop 0) s = RP) := Lib.hid (by simpa using hRP)
        clear hRP HRE
        go_loopw [13] (fun i wr => ∃ (k : Nat) (s1 : Wo), k ≤ L ∧ i = .int .i64 k ∧ Hid (putV v (a + k) (r'.l.drop k) s1 = RP) ∧ Hid (WoAt wr gw go (some ⟨gw, 0, none⟩) (some ⟨go, 0, none⟩) n s1) ∧ Hid (Upd2 gw go W0 wr)) (fun i _ => L - (intOf i).toNat)
        case atStart => exact ⟨0, s, Nat.zero_le _, rfl, HP0, HST, HUT⟩
        case round =>
          clear HP0 HST HUT
          obtain ⟨k, s1, hk2, rfl, HP, HWA, HU⟩ := hrel
          have bx := HU.out.blk HB0.out HNE.out.1 HNE.out.2.1
          have bz := HU.out.blk HB1.out HNE.out.2.2.1 HNE.out.2.2.2
          have x0 := bx.cell 0
          have x1 := bx.cell 1
          have x2 := bx.cell 2
          have x3 := bx.cell 3
          have x4 := bx.cell 4
          have x5 := bx.cell 5
          simp at x0 x1 x2 x3 x4 x5
          have y0 := bz.cell 0
          have y1 := bz.cell 1
          have y2 := bz.cell 2
          have y3 := bz.cell 3
          have y4 := bz.cell 4
          have y5 := bz.cell 5
          have y6 := bz.cell 6
          have y7 := bz.cell 7
          have y8 := bz.cell 8
          have y9 := bz.cell 9
          have y10 := bz.cell 10
          have y11 := bz.cell 11
          have y12 := bz.cell 12
          have y13 := bz.cell 13
          have y14 := bz.cell 14
          simp at y0 y1 y2 y3 y4 y5 y6 y7 y8 y9 y10 y11 y12 y13 y14
          have hwx := bx.lt
          have hwy := bz.lt
          clear bx bz
          have hbW : Below B W0 wr := HU.out.below HG1.out HG2.out HBW.out
          have sc' := (hbW.cell (p := ⟨bs, os + v, none⟩) hbs).trans sc
          have hbs1 : bs < wr.heap.size := Nat.lt_of_lt_of_le hbs0 HU.out.size
          by_cases hltk : k < L
          · have hltI : (k : Int) < L := by omega
            obtain ⟨br, or, xv, hAr, hbr, hxv, hx32, cx⟩ := rw_at (HRI.out.below hbW) (k := k) (by rw [HL.out]; exact hltk)
            have hpc := putV_cons v a r'.l k xv s1 hxv
            rw [HP.out] at hpc
            obtain ⟨q, hq⟩ : ∃ q : Nat, a + k = q := ⟨_, rfl⟩
            have hqn : q < n := by omega
            have hqI : (q : Int) < n := by omega
            have haq : (a : Int) + k = q := by omega
            obtain ⟨ov, hov⟩ : ∃ o, s1.2[q]? = some o := ⟨_, List.getElem?_eq_getElem (by rw [HWA.out.1.2.1]; exact hqn)⟩
            have hgd : s1.2.getD q 0 = ov := by rw [List.getD_eq_getElem?_getD, hov]; rfl
            rw [hq, hgd] at hpc
            obtain ⟨⟨-, hrw⟩, ⟨-, hro⟩⟩ := HWA.out.2 hn0
            have oc := hro.cell (intsV_get hov)
            have of_ := hro.frozen q
            have wf_ := hrw.frozen q
            obtain ⟨wv, hwv⟩ : ∃ o, s1.1[q]? = some o := ⟨_, List.getElem?_eq_getElem (by rw [HWA.out.1.1]; exact hqn)⟩
            have wc_ := hrw.cell (wordsC_get hwv)
            clear hwv
            have hgo' : ¬ gw = go := hgo
            have hgo'' : ¬ go = gw := Ne.symm hgo
            have hgow := hro.lt
            have hgww := hrw.lt
            have hbr1 : br < wr.heap.size := Nat.lt_of_lt_of_le hbr (Nat.le_trans HBW.out HU.out.size)
            have hne7 : ¬ go = br := by have := HG2.out; omega
            have hne8 : ¬ gw = br := by have := HG1.out; omega
            rw [hAr] at sc'
            have HRW := Lib.hid hrw
            have HRO := Lib.hid hro
            have HX32 := Lib.hid hx32
            have HQ := Lib.hid hq
            clear hrw hro hov hgd hxv hAr hbW hx32
            by_cases hbad : ov ≠ 0 ∧ ov ≠ (v : Int) + 1
            · rw [if_pos hbad] at hpc
              have HRN : Hid (R = none) := Lib.hid (by rw [HREP.out, hpc]; rfl)
              have b1 : (ov != 0) = true := by simpa using hbad.1
              have b2 : (ov != (v : Int) + 1) = true := by simpa using hbad.2
              clear hpc hbad
              go_wp2
              go_quiet (fail)
              rename_i nq
              go_wp2
              go_ret
              exact ⟨by rw [HRN.out]; rfl, ((Upd2.of_below HK0.out).trans HU.out).trans (Upd2.drewN_ _ _), fun s' h => by rw [HRN.out] at h; cases h⟩
            · rw [if_neg hbad] at hpc
              have HPC := Lib.hid hpc
              clear hpc
              have hc2 : ((ov != 0) = true ∧ (ov != (v : Int) + 1) = false) ∨ (ov != 0) = false := by
                by_cases h0 : ov = 0
                · exact .inr (by simpa using h0)
                · refine .inl ⟨by simpa using h0, ?_⟩
                  have : ov = (v : Int) + 1 := Classical.byContradiction fun h => hbad ⟨h0, h⟩
                  simpa using this
              clear hbad
              rcases hc2 with ⟨b1, b2⟩ | b1
              all_goals
                go_wp2
                go_quiet (fail)
                rename_i nq
                have of2 : (wr.drewN nq).frozen? ⟨go, q, none⟩ = false := of_
                have wf2 : (wr.drewN nq).frozen? ⟨gw, q, none⟩ = false := wf_
                have HRW2 : Hid (RowW (wr.drewN nq) gw 21 (wordsC s1.1)) := Lib.hid (HRW.out.drewN nq)
                have HRO2 : Hid (RowW (wr.drewN nq) go 3 (intsV s1.2)) := Lib.hid (HRO.out.drewN nq)
                have HU2 : Hid (Upd2 gw go W0 (wr.drewN nq)) := Lib.hid (HU.out.trans (Upd2.drewN_ _ _))
                go_wp2
                go_roundw
                case rel =>
                  refine ⟨k + 1, (s1.1.set q xv, s1.2.set q ((v : Int) + 1)), by omega, by go_num, Lib.hid (HPC.out.symm), Lib.hid ⟨⟨?_, ?_, ?_⟩, fun _ => ⟨⟨rfl, ?_⟩, ⟨rfl, ?_⟩⟩⟩, Lib.hid ((HU2.out.trans (Upd2.of2 (UpdB.set _ _ _))).trans (Upd2.of (UpdB.set _ _ _)))⟩
                  · simpa using HWA.out.1.1
                  · simpa using HWA.out.1.2.1
                  · intro y hy
                    rcases List.mem_or_eq_of_mem_set hy with hy | rfl
                    · exact HWA.out.1.2.2 y hy
                    · exact HX32.out
                  · rw [wordsC_set]
                    exact (HRW2.out.far (p := ⟨go, q, none⟩) hgo _).set q _
                  · rw [intsV_set]
                    exact (HRO2.out.set q _).far (p := ⟨gw, q, none⟩) (Ne.symm hgo) _
                case measure => simp [intOf]; omega
          · have hltI : ¬ (k : Int) < L := by omega
            obtain rfl : k = L := by omega
            have HRE : Hid (R = markL g ss e.l s1) := Lib.hid (by
              have h := HP.out
              rw [List.drop_of_length_le (by rw [HL.out]; exact Nat.le_refl _), putV] at h
              rw [HREP.out, ← h]; rfl)
            have HST := HWA
            have HUT := HU
            clear HP HREP hbW
            go_wp2
            go_loopw [14] (fun i wr => ∃ (k : Nat) (s2 : Wo), k ≤ e.l.length ∧ i = .int .i64 k ∧ Hid (markL g ss (e.l.take k) s1 = some s2) ∧ Hid (WoAt wr gw go (some ⟨gw, 0, none⟩) (some ⟨go, 0, none⟩) n s2) ∧ Hid (Upd2 gw go W0 wr)) (fun i _ => e.l.length - (intOf i).toNat)
            case atStart => exact ⟨0, s1, Nat.zero_le _, rfl, Lib.hid (by rw [List.take_zero, markL]), HST, HUT⟩
            case round =>
              clear HST HUT
              obtain ⟨k, s2, hk2, rfl, HT, HWA, HU⟩ := hrel
              have bx := HU.out.blk HB0.out HNE.out.1 HNE.out.2.1
              have bz := HU.out.blk HB1.out HNE.out.2.2.1 HNE.out.2.2.2
              have x0 := bx.cell 0
              have x1 := bx.cell 1
              have x2 := bx.cell 2
              have x3 := bx.cell 3
              have x4 := bx.cell 4
              have x5 := bx.cell 5
              simp at x0 x1 x2 x3 x4 x5
              have y0 := bz.cell 0
              have y1 := bz.cell 1
              have y2 := bz.cell 2
              have y3 := bz.cell 3
              have y4 := bz.cell 4
              have y5 := bz.cell 5
              have y6 := bz.cell 6
              have y7 := bz.cell 7
              have y8 := bz.cell 8
              have y9 := bz.cell 9
              have y10 := bz.cell 10
              have y11 := bz.cell 11
              have y12 := bz.cell 12
              have y13 := bz.cell 13
              have y14 := bz.cell 14
              simp at y0 y1 y2 y3 y4 y5 y6 y7 y8 y9 y10 y11 y12 y13 y14
              have hwx := bx.lt
              have hwy := bz.lt
              clear bx bz
              have hbW : Below B W0 wr := HU.out.below HG1.out HG2.out HBW.out
              by_cases hltk : k < e.l.length
              · have hltI : (k : Int) < e.l.length := by omega
                obtain ⟨b, off, x, hA, hb, hx, hin, r0, r1, r2, r3, r4, r5⟩ := kes_six (HI.out.parts.below hbW) hltk
                have zb : b < wr.heap.size := Nat.lt_of_lt_of_le hb (Nat.le_trans HBW.out HU.out.size)
                rw [hA] at x5
                have hC := HIH.out x (List.mem_of_getElem? hx) s2 wr.drew (hbW.trans (Below.refl _ _).drew) (Nat.le_trans HBW.out HU.out.size) (Nat.lt_of_lt_of_le HGW.out.1 HU.out.size) (Nat.lt_of_lt_of_le HGW.out.2 HU.out.size) (HWA.out.call (Below.refl _ _).drew)
                have HX := Lib.hid hx
                have hwd : wr.drew.heap.size = wr.heap.size := rfl
                obtain ⟨P, hP⟩ : ∃ P, markE g ss x s2 = P := ⟨_, rfl⟩
                rw [hP] at hC
                have HP := Lib.hid hP
                clear hA hx hin hbW hP
                cases P with
                | none =>
                  have HRN : Hid (R = none) := Lib.hid (HRE.out.trans (markL_fail g ss HX.out HT.out HP.out))
                  have HC := Lib.hid (hC.mono (fun en w' (h : RetMark none gw go (some ⟨gw, 0, none⟩) (some ⟨go, 0, none⟩) n wr.drew en w') => (show en = .returned (.bool false) ∧ Upd2 gw go wr.drew w' from ⟨h.1, h.2.1⟩)))
                  clear hC
                  go_wp2
                  refine wp_region_quiet_tail 9 (by kernel_rfl) (by kernel_rfl) ?_
                  simp only [List.take_succ_cons, List.take_zero, List.drop_succ_cons, List.drop_zero]
                  repeat go_big_quiet_step (fail)
                  refine wpQuiet_nil ?_
                  go_wp2_with first
                    | (go_at_call 16; (with_reducible refine HC.out.mono ?_); rintro e3 w3 ⟨rfl, hu3⟩)
                  go_ret
                  exact ⟨by rw [HRN.out]; rfl, ((Upd2.of_below HK0.out).trans HU.out).trans (Upd2.drew_to hu3), fun s' h => by rw [HRN.out] at h; cases h⟩
                | some s3 =>
                  have HC := Lib.hid (hC.mono (fun en w' (h : RetMark (some s3) gw go (some ⟨gw, 0, none⟩) (some ⟨go, 0, none⟩) n wr.drew en w') => (show en = .returned (.bool true) ∧ Upd2 gw go wr.drew w' ∧ WoAt w' gw go (some ⟨gw, 0, none⟩) (some ⟨go, 0, none⟩) n s3 from ⟨h.1, h.2.1, h.2.2 _ rfl⟩)))
                  have HS : Hid (markL g ss (e.l.take (k + 1)) s1 = some s3) := Lib.hid (by rw [List.take_add_one, HX.out]; exact (markL_snoc g ss _ _ _).trans (by rw [HT.out]; exact HP.out))
                  clear hC
                  go_wp2
                  refine wp_region_quiet_tail 9 (by kernel_rfl) (by kernel_rfl) ?_
                  simp only [List.take_succ_cons, List.take_zero, List.drop_succ_cons, List.drop_zero]
                  repeat go_big_quiet_step (fail)
                  refine wpQuiet_nil ?_
                  go_wp2_with first
                    | (go_at_call 16; (with_reducible refine HC.out.mono ?_); rintro e3 w3 ⟨rfl, hu3, hw3⟩
                       have HU3 := Lib.hid hu3
                       have HW3 := Lib.hid hw3
                       clear hu3 hw3)
                  go_roundw
                  case rel => exact ⟨k + 1, s3, by omega, by go_num, HS, HW3, Lib.hid (HU.out.trans (Upd2.drew_to HU3.out))⟩
                  case measure => simp [intOf]; omega
              · have hltI : ¬ (k : Int) < e.l.length := by omega
                obtain rfl : k = e.l.length := by omega
                have HRT : Hid (R = some s2) := Lib.hid (by rw [HRE.out, ← HT.out, List.take_of_length_le (Nat.le_refl _)])
                go_wp2
                go_ret
                exact ⟨by rw [HRT.out]; rfl, (Upd2.of_below HK0.out).trans HU.out, fun s' h => by rw [HRT.out] at h; obtain rfl := Option.some.inj h; exact HWA.out⟩
    · have hRE2 : R = markL g ss e.l s := by
        rw [hRE]
        unfold mark0
        rw [if_neg (by omega)]
        rfl
      have HRE := Lib.hid hRE2
      clear hRE hRE2 hok HV
      have hk2 : (K == 2) = false := by simp; omega
      have hk3 : (K == 3) = false := by simp; omega
      have HST := HWO
      have HUT : Hid (Upd2 gw go W0 W0) := Lib.hid (Upd2.of_below (Below.refl _ _))
      go_enter Tryz.func16, Tryz.ntmps16
      go_wp2
      go_loopw [14] (fun i wr => ∃ (k : Nat) (s2 : Wo), k ≤ e.l.length ∧ i = .int .i64 k ∧ Hid (markL g ss (e.l.take k) s = some s2) ∧ Hid (WoAt wr gw go Aw Ao n s2) ∧ Hid (Upd2 gw go W0 wr)) (fun i _ => e.l.length - (intOf i).toNat)
      case atStart => exact ⟨0, s, Nat.zero_le _, rfl, Lib.hid (by rw [List.take_zero, markL]), HST, HUT⟩
      case round =>
        clear HST HUT
        obtain ⟨k, s2, hk2, rfl, HT, HWA, HU⟩ := hrel
        have bx := HU.out.blk HB0.out HNE.out.1 HNE.out.2.1
        have bz := HU.out.blk HB1.out HNE.out.2.2.1 HNE.out.2.2.2
        have x0 := bx.cell 0
        have x1 := bx.cell 1
        have x2 := bx.cell 2
        have x3 := bx.cell 3
        have x4 := bx.cell 4
        have x5 := bx.cell 5
        simp at x0 x1 x2 x3 x4 x5
        have y0 := bz.cell 0
        have y1 := bz.cell 1
        have y2 := bz.cell 2
        have y3 := bz.cell 3
        have y4 := bz.cell 4
        have y5 := bz.cell 5
        have y6 := bz.cell 6
        have y7 := bz.cell 7
        have y8 := bz.cell 8
        have y9 := bz.cell 9
        have y10 := bz.cell 10
        have y11 := bz.cell 11
        have y12 := bz.cell 12
        have y13 := bz.cell 13
        have y14 := bz.cell 14
        simp at y0 y1 y2 y3 y4 y5 y6 y7 y8 y9 y10 y11 y12 y13 y14
        have hwx := bx.lt
        have hwy := bz.lt
        clear bx bz
        have hbW : Below B W0 wr := HU.out.below HG1.out HG2.out HBW.out
        by_cases hltk : k < e.l.length
        · have hltI : (k : Int) < e.l.length := by omega
          obtain ⟨b, off, x, hA, hb, hx, hin, r0, r1, r2, r3, r4, r5⟩ := kes_six (HI.out.parts.below hbW) hltk
          have zb : b < wr.heap.size := Nat.lt_of_lt_of_le hb (Nat.le_trans HBW.out HU.out.size)
          rw [hA] at x5
          have hC := HIH.out x (List.mem_of_getElem? hx) s2 wr.drew (hbW.trans (Below.refl _ _).drew) (Nat.le_trans HBW.out HU.out.size) (Nat.lt_of_lt_of_le HGW.out.1 HU.out.size) (Nat.lt_of_lt_of_le HGW.out.2 HU.out.size) (HWA.out.call (Below.refl _ _).drew)
          have HX := Lib.hid hx
          have hwd : wr.drew.heap.size = wr.heap.size := rfl
          obtain ⟨P, hP⟩ : ∃ P, markE g ss x s2 = P := ⟨_, rfl⟩
          rw [hP] at hC
          have HP := Lib.hid hP
          clear hA hx hin hbW hP
          cases P with
          | none =>
            have HRN : Hid (R = none) := Lib.hid (HRE.out.trans (markL_fail g ss HX.out HT.out HP.out))
            have HC := Lib.hid (hC.mono (fun en w' (h : RetMark none gw go Aw Ao n wr.drew en w') => (show en = .returned (.bool false) ∧ Upd2 gw go wr.drew w' from ⟨h.1, h.2.1⟩)))
            clear hC
            go_wp2
            refine wp_region_quiet_tail 9 (by kernel_rfl) (by kernel_rfl) ?_
            simp only [List.take_succ_cons, List.take_zero, List.drop_succ_cons, List.drop_zero]
            repeat go_big_quiet_step (fail)
            refine wpQuiet_nil ?_
            go_wp2_with first
              | (go_at_call 16; (with_reducible refine HC.out.mono ?_); rintro e3 w3 ⟨rfl, hu3⟩)
            go_ret
            exact ⟨by rw [HRN.out]; rfl, ((Upd2.of_below HK0.out).trans HU.out).trans (Upd2.drew_to hu3), fun s' h => by rw [HRN.out] at h; cases h⟩
          | some s3 =>
            have HC := Lib.hid (hC.mono (fun en w' (h : RetMark (some s3) gw go Aw Ao n wr.drew en w') => (show en = .returned (.bool true) ∧ Upd2 gw go wr.drew w' ∧ WoAt w' gw go Aw Ao n s3 from ⟨h.1, h.2.1, h.2.2 _ rfl⟩)))
            have HS : Hid (markL g ss (e.l.take (k + 1)) s = some s3) := Lib.hid (by rw [List.take_add_one, HX.out]; exact (markL_snoc g ss _ _ _).trans (by rw [HT.out]; exact HP.out))
            clear hC
            go_wp2
            refine wp_region_quiet_tail 9 (by kernel_rfl) (by kernel_rfl) ?_
            simp only [List.take_succ_cons, List.take_zero, List.drop_succ_cons, List.drop_zero]
            repeat go_big_quiet_step (fail)
            refine wpQuiet_nil ?_
            go_wp2_with first
              | (go_at_call 16; (with_reducible refine HC.out.mono ?_); rintro e3 w3 ⟨rfl, hu3, hw3⟩
                 have HU3 := Lib.hid hu3
                 have HW3 := Lib.hid hw3
                 clear hu3 hw3)
            go_roundw
            case rel => exact ⟨k + 1, s3, by omega, by go_num, HS, HW3, Lib.hid (HU.out.trans (Upd2.drew_to HU3.out))⟩
            case measure => simp [intOf]; omega
        · have hltI : ¬ (k : Int) < e.l.length := by omega
          obtain rfl : k = e.l.length := by omega
          have HRT : Hid (R = some s2) := Lib.hid (by rw [HRE.out, ← HT.out, List.take_of_length_le (Nat.le_refl _)])
          go_wp2
          go_ret
          exact ⟨by rw [HRT.out]; rfl, (Upd2.of_below HK0.out).trans HU.out, fun s' h => by rw [HRT.out] at h; obtain rfl := Option.some.inj h; exact HWA.out⟩
end Go.Proofs.YtbefmlioampgcaaGreatDoor

/- The law's lay: what it needs; plain. -/
namespace Go.Proofs.YtbefmlioampgcaaGreatDoor
open Go.RowKit
set_option linter.unusedVariables false
set_option linter.unusedSimpArgs false

theorem i64_info : (Tryz.prog.info? 3).map (fun i => (i.zero, i.size, i.bytes)) = some (some (.int .i64 0), 1, 8) := by kernel_rfl
theorem mark_ok {g : EmL} {e : KE} {temp n : Int} {ss : List RwL} (hf : e.all (fun x => fieldsB x = true)) (hd : allE (dimsB g) e = true) (hst : storeB g.vars ss = true) (ho : offsE g temp e = some n) : e.all (MarkOk g ss n.toNat) := by
  have h1 := (allE_iff e).1 hd
  have h2 := offsE_all e ho
  have hall : e.all (fun x => fieldsB x = true ∧ dimsB g x = true ∧ ∃ m, offs0 g temp x = some m ∧ m ≤ n) := by
    clear hd ho
    induction e using KE.ind with
    | h e ih =>
      rw [KE.all_iff] at hf h1 h2 ⊢
      exact ⟨⟨hf.1, h1.1, h2.1⟩, fun x hx => ih x hx (hf.2 x hx) (h1.2 x hx) (h2.2 x hx)⟩
  refine KE.all_imp ?_ e hall
  rintro x ⟨h3, h4, m, h5, h6⟩ hk
  have hvr := fields_v h3 hk
  obtain ⟨a, ha, ha0, -, ham⟩ := offs0_var h5 hk
  obtain ⟨k, hvk⟩ : ∃ n : Nat, x.v = n := ⟨x.v.toNat, by omega⟩
  have hlt : k < g.vars.length := by
    unfold dimsB at h4
    rcases hk with hk | hk
    · rw [if_pos hk] at h4; have := (of_decide_eq_true h4).1; omega
    · rw [if_neg (by omega), if_pos hk] at h4; have := (of_decide_eq_true h4).1; omega
  have hl := storeB_len hst
  have hy : g.vars[k]? = some g.vars[k] := List.getElem?_eq_getElem hlt
  have hr : ss[k]? = some (ss[k]'(by omega)) := List.getElem?_eq_getElem (by omega)
  have h7 := ((storeB_iff hl).1 hst k _ _ hy hr).1
  have h8 : (g.vars.getD x.v.toNat ⟨0, 0⟩).dim = (g.vars[k]).dim := by rw [hvk, Int.toNat_natCast, List.getD_eq_getElem?_getD, hy]; rfl
  rw [h8] at ham
  refine ⟨a.toNat, k, _, by rw [ha]; congr 1; omega, hvk, by omega, hr, by omega, by omega⟩
theorem made_words (n : Nat) : madeCells (Value.int .i32 0).cells n = (wordsC (List.replicate n 0)).toArray := by
  have e : (Value.int .i32 0).cells = #[.int .i32 0] := rfl
  rw [e]
  refine Array.ext (by simp [madeCells, wordsC]) fun i h1 h2 => ?_
  simp [madeCells, Nat.mod_one, wordsC]
theorem made_ints64 (n : Nat) : madeCells (Value.int .i64 0).cells n = (intsV (List.replicate n 0)).toArray := by
  have e : (Value.int .i64 0).cells = #[.int .i64 0] := rfl
  rw [e]
  refine Array.ext (by simp [madeCells, intsV]) fun i h1 h2 => ?_
  simp [madeCells, Nat.mod_one, intsV]
theorem RowW.of_blk {w : World} {g : Nat} {t : TypeId} {l : List Value} (h : Blk w g t l.toArray) : RowW w g t l := ⟨l.toArray, h, by simp, by simp⟩
/-- The words while they are filled. -/
def fillP (fill : Int) (n k : Nat) : List Int := (List.range n).map fun i : Nat => if i < k then wrap32 (fill + (i : Int)) else 0
theorem fillP_zero (fill : Int) (n : Nat) : fillP fill n 0 = List.replicate n 0 := by
  refine List.ext_getElem (by simp [fillP]) fun i h1 h2 => ?_
  simp [fillP]
theorem fillP_set (fill : Int) (n k : Nat) : (fillP fill n k).set k (wrap32 (fill + (k : Int))) = fillP fill n (k + 1) := by
  refine List.ext_getElem (by simp [fillP]) fun i h1 h2 => ?_
  rw [List.getElem_set]
  simp only [fillP, List.getElem_map, List.getElem_range]
  split
  · subst_vars; rw [if_pos (by omega)]
  · by_cases h : i < k
    · rw [if_pos h, if_pos (by omega)]
    · rw [if_neg h, if_neg (by omega)]
theorem fillP_end (fill : Int) (n : Nat) : fillP fill n n = fillL fill n := by
  refine List.ext_getElem (by simp [fillP, fillL]) fun i h1 h2 => ?_
  simp only [fillP, fillL, List.getElem_map, List.getElem_range]
  rw [if_pos (by simpa [fillL] using h2)]
theorem fillP_len (fill : Int) (n k : Nat) : (fillP fill n k).length = n := by simp [fillP]
theorem ownL_len (t k n : Nat) : (ownL t k n).length = n := by simp [ownL]
theorem ownL_zero (t n : Nat) : ownL t 0 n = List.replicate n 0 := by
  refine List.ext_getElem (by simp [ownL]) fun i h1 h2 => ?_
  simp only [ownL, List.getElem_map, List.getElem_range, List.getElem_replicate]
  rw [if_neg (by omega)]
theorem ownL_set (t n k : Nat) : (ownL t k n).set (t + k) (-1) = ownL t (k + 1) n := by
  refine List.ext_getElem (by simp [ownL]) fun i h1 h2 => ?_
  rw [List.getElem_set]
  simp only [ownL, List.getElem_map, List.getElem_range]
  split
  · subst_vars; rw [if_pos (by omega)]
  · by_cases h : t ≤ i ∧ i < t + k
    · rw [if_pos h, if_pos (by omega)]
    · rw [if_neg h, if_neg (by omega)]
end Go.Proofs.YtbefmlioampgcaaGreatDoor
