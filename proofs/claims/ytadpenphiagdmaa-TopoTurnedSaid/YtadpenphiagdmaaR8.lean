/- The program's Route: the walk of a good call. -/
import Derived.Test.YtadpenphiagdmaaR7
namespace Go.Proofs.Ytadpenphiagdmaa
open Go.RowKit
set_option linter.unusedVariables false
set_option linter.unusedSimpArgs false

set_option maxRecDepth 100000 in
set_option maxHeartbeats 2000000 in
theorem tRoute_good (N hn hl : Int) (A : Option Addr) (m c : Nat) (ws : List Wire) (fr dn : Int) (a b : List Int) (f1 f2 : Nat) (w : World) (hr : Reads w w.heap.size 4 A m (wcells ws)) (hm : m ≤ 1000000)
    (hmay : mayB N ws hn hl = true) (hfr : 0 ≤ fr ∧ fr < N) (hdn : 0 ≤ dn ∧ dn < N)
    (hU : ∀ x, 0 ≤ x → x < N → upOf ws hn hl x = (x, (tints N (orderOf ws hn hl)).getD x.toNat 0))
    (hpa : pathF ws hn hl f1 fr = some a) (hpb : pathF ws hn hl f2 dn = some b) (ha9 : a.length ≤ 9) (hb9 : b.length ≤ 9) :
    Calls Try.prog 15 #[.agg #[.int .i64 N, .slice A m c, .int .i64 hn, .int .i64 hl], .int .i64 fr, .int .i64 dn] w (RetSE (trouteL ws hn hl a b) 0 w) := by
  obtain ⟨i0, hi0, hz0', hz1, hz2⟩ := info_parts int_info
  obtain ⟨k1, k2⟩ := lay1 w #[.int .i64 N, .slice A m c, .int .i64 hn, .int .i64 hl] 26
  have hr0 := hr.up k1 (by simp <;> omega)
  have HI1 := Lib.hid (fun w (hr : Reads w w.heap.size 4 A m (wcells ws)) => tinside N hn hl A m c ws w hr hm fr)
  have HI2 := Lib.hid (fun w (hr : Reads w w.heap.size 4 A m (wcells ws)) => tinside N hn hl A m c ws w hr hm dn)
  have HJ := Lib.hid (tvalid_yes N hn hl A m c ws (w.alloc (.cells #[.int .i64 N, .slice A m c, .int .i64 hn, .int .i64 hl] 26)) hr0 hm hmay)
  have Hnet := Lib.hid (mayB_net hmay)
  have hN8 := Hnet.out.n8
  have hin1 : (decide (0 ≤ fr) && decide (fr < N)) = true := by simp; exact hfr
  have hin2 : (decide (0 ≤ dn) && decide (dn < N)) = true := by simp; exact hdn
  have Hin1 := Lib.hid hin1; clear hin1
  have Hin2 := Lib.hid hin2; clear hin2
  have Hpa := Lib.hid hpa; clear hpa
  have Hpb := Lib.hid hpb; clear hpb
  have HU := Lib.hid hU; clear hU
  have ltT := tints_length N (orderOf ws hn hl)
  have htT := tints_arr N (orderOf ws hn hl)
  generalize tints N (orderOf ws hn hl) = T at *
  generalize tarr N (orderOf ws hn hl) = Ta at *
  clear hmay
  go_enter Try.func15, Try.ntmps15
  go_wp2_with (first
      | (go_at_call 26; refine HJ.out.mono ?_; rintro e w1 ⟨hb1, g, r, bt0, rfl, bg, hM, bt, hgl, hbl⟩
         have b0 := k2.call hb1
         have hB := k1.call (by simp <;> omega) hb1
         have hr1 := hr0.call hb1
         have c00 := b0.cell 0
         have c01 := b0.cell 1
         have c02 := b0.cell 2
         have c03 := b0.cell 3
         simp at c00 c01 c02 c03)
      | (go_at_call 28; first
         | (refine (HI1.out _ hr1).mono ?_; clear HI1; rintro e w2 ⟨rfl, hb2⟩; rw [Hin1.out]
            have b0' := b0.call hb2
            have hr2 := hr1.call hb2
            have c10 := b0'.cell 0
            have c11 := b0'.cell 1
            have c12 := b0'.cell 2
            have c13 := b0'.cell 3
            simp at c10 c11 c12 c13)
         | (refine (HI2.out _ hr2).mono ?_; rintro e w3 ⟨rfl, hb3⟩; rw [Hin2.out])))
  have hB2 := hB.call hB.size hb2
  have hB3 := hB2.call hB2.size hb3
  have b03 := b0'.call hb3
  have bg3 := (bg.call hb2).call hb3
  have hM3 := (hM.call hb2).call hb3
  have bt3 := (bt.call hb2).call hb3
  have ks : Below w3.heap.size w3 (w3.alloc (.cells (sarr []) 64)) := (Below.refl _ _).alloc (Nat.le_refl _) _
  have bs := Blk.new w3 64 (sarr [])
  have l0 := b03.lt
  have lt := bt3.lt
  have lg := bg3.lt
  clear b0 b0' hB hB2 bg hM bt hr1 hr2 hr0 c00 c01 c02 c03 c10 c11 c12 c13 hb1 hb2 hb3 k1 k2 HJ hgl hbl
  go_loopw [12, 13] (fun v n wr => ∃ (i : Nat) (x : Int) (gf : Nat), n = .int .i64 x ∧ Hid (pathF ws hn hl gf x = some (a.drop i)) ∧ 0 ≤ x ∧ x < N ∧ Blk wr w3.heap.size 64 (sarr (a.take i)) ∧
    wr.ownsRow (w3.heap.size + 1) 3 1 v i (icells (ups ws hn hl (a.take i))) ∧ Below w3.heap.size w3 wr) (fun v _ _ => a.length - lenOf v)
  case atStart => exact ⟨0, fr, f1, rfl, Hpa, hfr.1, hfr.2, bs, World.ownsRow_nil _ _ _ _, ks⟩
  case round =>
    clear ks bs
    obtain ⟨i, x, gf, rfl, Hg, hx0, hxN, bs, hown, kB⟩ := hrel
    obtain ⟨A5, cap, rfl⟩ := ownsRow_form hown
    obtain ⟨ra, hra⟩ := pathF_head Hg.out
    have hdl : a.length - i = ra.length + 1 := by have := congrArg List.length hra; simpa using this
    have hra' := drop_head hra
    have HR := Lib.hid hra'; clear hra' hra
    have hx8 : x < 8 := by omega
    have hfz := bs.frozen x.toNat
    have hcs := (bs.cell x.toNat).trans (sarr_get (a.take i) x hx0 hx8)
    go_upto_region 11 with (fail)
    have bs2 := bs.set_ x.toNat (.int .i64 ((i : Int) + 1))
    have hil : (a.take i).length = i := by rw [List.length_take]; omega
    have es := sarr_snoc (a.take i) x
    rw [hil, ← HR.out.2.2] at es
    rw [← es] at bs2
    have kS : Below w3.heap.size wr (wr.setCell ⟨w3.heap.size, x.toNat, none⟩ (.int .i64 ((i : Int) + 1))) := Below.setCell (Below.refl w3.heap.size wr) (p := ⟨w3.heap.size, x.toNat, none⟩) (Nat.le_refl _) _
    have hown2 := (ownsOff.farRow hown (p := ⟨w3.heap.size, x.toNat, none⟩) (Nat.lt_succ_self _) (.int .i64 ((i : Int) + 1)))
    have kB2 := kB.trans kS
    clear bs hown kB kS hfz hcs es
    generalize wr.setCell ⟨w3.heap.size, x.toNat, none⟩ (.int .i64 ((i : Int) + 1)) = W at *
    have b0 := b03.call kB2
    have bg := bg3.call kB2
    have hM := hM3.call kB2
    have bt := bt3.call kB2
    have c02 := b0.cell 2
    simp at c02
    by_cases hx : x = hn
    · have hxd : (x == hn) = true := by simpa using hx
      have Hx := Lib.hid hx; clear hx
      have hra : ra = [] := by
        obtain ⟨r3, h3⟩ := pathF_head Hg.out
        have h4 := pathF_root Hg.out Hx.out
        have h5 := (drop_head h3).2.1
        rw [h3] at h4; injection h4 with _ h4
        rw [← HR.out.2.1, h5, h4]
      have hai : a.length = i + 1 := by rw [hra] at hdl; simp at hdl; omega
      have hta : a.take (i + 1) = a := List.take_of_length_le (by omega)
      rw [hta] at bs2
      have hsr : (steps a).getD hn.toNat 0 = (i : Int) + 1 := by
        have h := steps_last (a.take i) x (by omega)
        rw [← HR.out.2.2, hta, hil] at h
        rw [← Hx.out]; exact h
      have Hsr := Lib.hid hsr
      clear hsr hra hta HR
      go_wp2
      clear hxd c02
      have lW := kB2.size
      have lS := bs2.lt
      go_loopw [2, 14] (fun n v wr => ∃ (j : Nat) (y : Int) (gf : Nat), n = .int .i64 y ∧ Hid (pathF ws hn hl gf y = some (b.drop j)) ∧ 0 ≤ y ∧ y < N ∧ Hid (∀ t z, t < j → b[t]? = some z → (steps a).getD z.toNat 0 = 0) ∧
        wr.ownsRow W.heap.size 3 1 v j (icells ((b.take j).map fun z => (downOf ws hn hl z).2)) ∧ Below W.heap.size W wr) (fun _ v _ => b.length - lenOf v)
      case atStart => exact ⟨0, dn, f2, rfl, Hpb, hdn.1, hdn.2, fun t z h => by omega, World.ownsRow_nil _ _ _ _, Below.refl _ _⟩
      case round =>
        obtain ⟨j, y, gf2, rfl, Hg2, hy0, hyN, Hz, hown3, kW⟩ := hrel
        obtain ⟨A6, cap6, rfl⟩ := ownsRow_form hown3
        obtain ⟨rb, hrb⟩ := pathF_head Hg2.out
        have hdb : b.length - j = rb.length + 1 := by have := congrArg List.length hrb; simpa using this
        have hrb' := drop_head hrb
        have HR2 := Lib.hid hrb'; clear hrb' hrb
        have bsw := bs2.call kW
        have hy8 : y < 8 := by omega
        have hcs := (bsw.cell y.toNat).trans (sarr_get a y hy0 hy8)
        obtain ⟨z, hz⟩ : ∃ z, (steps a).getD y.toNat 0 = z := ⟨_, rfl⟩
        have hzb := steps_bound a y.toNat
        rw [hz] at hcs hzb
        have HZ := Lib.hid hz; clear hz
        have bgw := bg.call kW
        have hMw := hM.call kW
        have btw := bt.call kW
        by_cases hz0 : z = 0
        · subst hz0
          have hyh : y ≠ hn := by rintro rfl; have h1 := Hsr.out; rw [HZ.out] at h1; omega
          obtain ⟨g', r', rfl, hrr, hg'⟩ := pathF_up Hg2.out hyh
          have Hg' := Lib.hid hg'
          have hrr' : r' = b.drop (j + 1) := by
            have h1 := HR2.out.2.1
            obtain ⟨r3, h3⟩ := pathF_head Hg2.out
            have h4 := (drop_head h3).2.1
            rw [h3] at hrr; injection hrr with _ h; rw [h4, h]
          rw [hrr'] at Hg'
          clear hrr' hrr hg'
          obtain ⟨u, hu⟩ : ∃ u, T.getD y.toNat 0 = u := ⟨_, rfl⟩
          obtain ⟨q1, q2, hq12⟩ : ∃ q1 q2, (peerL ws y u).getD (0, 0) = (q1, q2) := ⟨_, _, rfl⟩
          have hux := HU.out y hy0 hyN
          rw [hu] at hux
          have hpar : parentOf ws hn hl y = q1 := by rw [parentOf, hux, hq12]
          have hdow : (downOf ws hn hl y).2 = q2 := by rw [downOf, hux, hq12]
          have Hdow := Lib.hid hdow
          have hpk := parent_ok (hl := hl) (x := y) Hnet.out
          rw [hpar] at hpk Hg'
          have HA : Hid (∀ w, Blk w g 63 (gcells N hn hl A m c r) → MapIs w r (pairs ws) → Blk w bt0 3 Ta → Calls Try.prog 30 #[.pointer (some ⟨g, 0, none⟩), .slice (some ⟨bt0, 0, none⟩) N.toNat N.toNat, .int .i64 y] w (RetV (.agg #[.int .i64 q1, .int .i64 q2]) w)) := fun w h1 h2 h3 => by
            have h := tabove N hn hl y A m c g r bt0 ws w T Ta htT ltT h1 h2 h3 hy0 hyN
            rw [hu, hq12] at h; exact h
          clear hux hpar hq12 hu hdow
          have hyI : y < ((8 : Nat) : Int) := by omega
          go_upto_region 16 with (
            go_at_call 30; refine (HA.out _ bgw hMw btw).mono ?_; rintro e w6 ⟨rfl, hb6⟩
            have hown6 := (hown3.below hb6).alloc (.cells #[.int .i64 q1, .int .i64 q2] 24)
            have bq := Blk.new w6 24 #[.int .i64 q1, .int .i64 q2]
            have k6 : Below W.heap.size W (w6.alloc (.cells #[.int .i64 q1, .int .i64 q2] 24)) := (kW.call kW.size hb6).alloc (kW.call kW.size hb6).size _)
          generalize w6.heap.size = g6 at *
          generalize w6.alloc (.cells #[.int .i64 q1, .int .i64 q2] 24) = V at *
          have cq0 := bq.cell 0
          have cq1 := bq.cell 1
          simp at cq0 cq1
          have sV := k6.size
          go_upto_region 17 with (
               at_builtin; refine app_own Try.underlying28 hi0 hz0' hz1 hz2 rfl (by decide) (hown6.alloc _) (by simp; omega) rfl (.tmp 70) (.tmp 73) rfl rfl V.heap.size 1 1 #[.int .i64 q2] rfl (Blk.new V _ _) rfl (by simp [Value.oneCell']) (by omega) (by omega) ?_; intro v' w' hown7 hgr7 hB7 _)
          have k7 := (k6.alloc k6.size (.cells #[.int .i64 q2] 3)).trans hB7
          have bq7 := (bq.alloc (.cells #[.int .i64 q2] 3)).grown hgr7 (fun e => own_blk_ne (hown6.alloc (.cells #[.int .i64 q2] 3)) (bq.alloc (.cells #[.int .i64 q2] 3)) (by decide) e.symm)
          have cq := bq7.cell 0
          simp at cq
          clear cq0 cq1
          go_wp2
          go_roundw
          case rel =>
            refine ⟨j + 1, q1, g', rfl, Hg', hpk.1, hpk.2, ?_, ?_, k7⟩
            · intro t z ht hb
              rcases Nat.lt_or_ge t j with h | h
              · exact Hz.out t z h hb
              · obtain rfl : t = j := by omega
                rw [HR2.out.1] at hb; injection hb with hb; subst hb; exact HZ.out
            · rw [HR2.out.2.2, List.map_append, icells, List.map_append]
              have e : (List.map (Value.int .i64) ([y].map fun z => (downOf ws hn hl z).2)) = [Value.int .i64 q2] := by simp [Hdow.out]
              rw [e]; exact hown7
          case measure => rw [ownsRow_lenOf hown7]; simp [lenOf]; omega
        · obtain ⟨p, rfl⟩ : ∃ p : Nat, z = (p : Int) + 1 := ⟨(z - 1).toNat, by omega⟩
          have hzd : ((p : Int) + 1 == 0) = false := by simpa using hz0
          obtain ⟨hic, hA0⟩ := ownsRow_cap hown2
          have hpc : (p : Int) ≤ (cap : Int) := by omega
          have hpi : p ≤ i := by omega
          go_upto_region 19 with (fail)
          have hup : ups ws hn hl (a.take p) = (ups ws hn hl (a.take i)).take p := by
            simp only [ups, ← List.map_take, List.take_take]; rw [Nat.min_eq_left hpi]
          have hmet := met_eq HR2.out.1 (by rw [HZ.out]; exact hz0) Hz.out
          obtain ⟨ds, hds⟩ : ∃ ds, (b.take j).map (fun z => (downOf ws hn hl z).2) = ds := ⟨_, rfl⟩
          have hres : trouteL ws hn hl a b = ups ws hn hl (a.take p) ++ ds.reverse := by
            have e : b.getD j 0 = y := by rw [List.getD_eq_getElem?_getD, HR2.out.1]; rfl
            rw [trouteL, hmet, e, HZ.out, downs, ← hds, List.map_reverse]
            congr 3
            congr 1
            omega
          have hdl2 : ds.length = j := by rw [← hds, List.length_map, List.length_take]; omega
          have hulen : (ups ws hn hl (a.take p)).length = p := by simp only [ups, List.length_map, List.length_take]; omega
          have hown0 := ownsRow_pre (hown2.below kW) hpi
          rw [icells, ← List.map_take, ← hup] at hown0
          rw [hds] at hown3
          have hdis : ∀ gg, (Value.slice A5 p cap).ownBlock = some gg → (Value.slice A6 j cap6).ownBlock ≠ some gg := by
            intro gg h1 h2
            have h3 := (hown2.lt gg (by rw [← h1]; cases A5 <;> rfl)).2
            have h4 := (hown3.lt gg h2).1
            omega
          generalize ups ws hn hl (a.take p) = up at *
          have Hres := Lib.hid hres
          have kB3 : Below w3.heap.size w3 wr := kB2.trans (kW.mono kB2.size)
          clear hres hup hmet hds hzd Hz HZ HR2 hA0 hzb hcs Hg2 hown2 kW
          go_wp2
          go_loopw [16, 85] (fun v n wx => ∃ k : Nat, n = .int .i64 k ∧ k ≤ j ∧ wx.ownsRow (w3.heap.size + 1) 3 1 v (p + k) (icells (up ++ ds.reverse.take k)) ∧ wx.ownsRow W.heap.size 3 1 (.slice A6 j cap6) j (icells ds) ∧ Below w3.heap.size w3 wx ∧
            (∀ gg, v.ownBlock = some gg → (Value.slice A6 j cap6).ownBlock ≠ some gg)) (fun _ n _ => j - (intOf n).toNat)
          case atStart => exact ⟨0, rfl, by omega, by rw [List.take_zero, List.append_nil]; exact hown0, hown3, kB3, hdis⟩
          case round =>
            clear hown0 hown3 kB3 hdis
            obtain ⟨k, rfl, hk, hown0, hown3, kB3, hdis⟩ := hrel
            by_cases hkj : k < j
            · obtain ⟨gd, capd, ed, hgd1, hgd2⟩ := ownsRow_pos hown3 (by omega)
              cases ed
              have hdk : j - 1 - k < ds.length := by omega
              obtain ⟨d, hd⟩ : ∃ d, ds[j - 1 - k]? = some d := ⟨_, List.getElem?_eq_getElem hdk⟩
              have hrev : ds.reverse.take (k + 1) = ds.reverse.take k ++ [d] := by
                rw [List.take_add_one, List.getElem?_reverse (by omega), hdl2, hd]; rfl
              have cd := hown3.cellAt (j - 1 - k) (by omega)
              rw [icells, List.getElem?_map, hd] at cd
              replace cd : wr.cell? ⟨gd, j - 1 - k, none⟩ = some (.int .i64 d) := cd
              have ei : ((j : Int) - 1 - (k : Int)).toNat = j - 1 - k := by omega
              have hi0' : (0 : Int) ≤ (j : Int) - 1 - (k : Int) := by omega
              have hi1' : (j : Int) - 1 - (k : Int) < (j : Int) := by omega
              have hkI : (k : Int) < (j : Int) := by omega
              go_upto_region 23 with (at_builtin; refine app_own Try.underlying28 hi0 hz0' hz1 hz2 rfl (by decide) (hown0.alloc _) (by have := kB3.size; simp; omega) rfl (.tmp 88) (.tmp 97) rfl rfl wr.heap.size 1 1 #[.int .i64 d] rfl (Blk.new wr _ _) rfl (by simp [Value.oneCell']) (by omega) (by omega) ?_; intro v' w' hown7 hgr7 hB7 hat)
              have hown3' := ownsRow_keep (hown3.alloc (.cells #[.int .i64 d] 3)) hgr7 (fun gg h1 => hdis gg h1)
              have k7 : Below w3.heap.size wr w' := ((Below.refl _ wr).alloc kB3.size _).trans (hB7.mono (by omega))
              have hdis' : ∀ gg, v'.ownBlock = some gg → (Value.slice (some ⟨gd, 0, none⟩) j cap6).ownBlock ≠ some gg := by
                intro gg h1 h2
                rcases hat with h3 | h3
                · exact hdis gg (by rw [← h3]; exact h1) h2
                · have h4 := (hown3.lt gg h2).2
                  rw [h1] at h3; injection h3 with h3; simp at h3; omega
              go_wp2
              go_roundw
              case rel =>
                refine ⟨k + 1, by go_num, by omega, ?_, hown3', kB3.trans k7, hdis'⟩
                rw [hrev, ← List.append_assoc, icells, List.map_append]; exact hown7
              case measure => simp [intOf]; omega
            · obtain rfl : j = k := by omega
              go_wp2
              go_ret2
              rw [Hres.out]
              rw [List.take_of_length_le (by simp; omega)] at hown0
              exact RetSE.of_own hown0 (hB3.call hB3.size kB3)
    · have hxd : (x == hn) = false := by simpa using hx
      obtain ⟨g', r', rfl, hrr, hg'⟩ := pathF_up Hg.out hx
      have Hg' := Lib.hid hg'
      have hrr' : r' = a.drop (i + 1) := by
        have h1 := HR.out.2.1
        have h2 : a.drop i = x :: ra := by
          obtain ⟨r3, h3⟩ := pathF_head Hg.out
          have := (drop_head h3).2.1
          rw [h3, ← this, h1]
        rw [h2] at hrr; injection hrr with _ h; rw [h1, h]
      rw [hrr'] at Hg'
      clear hrr' hrr hg'
      have Hx := Lib.hid hx; clear hx
      obtain ⟨y, hy⟩ : ∃ y, T.getD x.toNat 0 = y := ⟨_, rfl⟩
      obtain ⟨q1, q2, hq12⟩ : ∃ q1 q2, (peerL ws x y).getD (0, 0) = (q1, q2) := ⟨_, _, rfl⟩
      have hux := HU.out x hx0 hxN
      rw [hy] at hux
      have hpar : parentOf ws hn hl x = q1 := by rw [parentOf, hux, hq12]
      have hpk := parent_ok (hl := hl) (x := x) Hnet.out
      rw [hpar] at hpk Hg'
      have HA : Hid (∀ w, Blk w g 63 (gcells N hn hl A m c r) → MapIs w r (pairs ws) → Blk w bt0 3 Ta → Calls Try.prog 30 #[.pointer (some ⟨g, 0, none⟩), .slice (some ⟨bt0, 0, none⟩) N.toNat N.toNat, .int .i64 x] w (RetV (.agg #[.int .i64 q1, .int .i64 q2]) w)) := fun w h1 h2 h3 => by
        have h := tabove N hn hl x A m c g r bt0 ws w T Ta htT ltT h1 h2 h3 hx0 hxN
        rw [hy, hq12] at h; exact h
      have cT := blk_T bt htT (i := x.toNat) (by omega)
      rw [hy] at cT
      have hups : ups ws hn hl (a.take (i + 1)) = ups ws hn hl (a.take i) ++ [y] := by rw [ups_snoc HR.out.1, hux]
      have Hups := Lib.hid hups; clear hups
      clear hux hpar hq12 hy
      have hxI : x < ((N.toNat : Nat) : Int) := by omega
      have hxm : x < max N 0 := by omega
      go_wp2_with (first
        | (at_builtin; refine app_own Try.underlying28 hi0 hz0' hz1 hz2 rfl (by decide) (hown2.alloc _) (by have := kB2.size; have := bs2.lt; simp; omega) rfl (.tmp 55) (.tmp 60) rfl rfl W.heap.size 1 1 #[.int .i64 y] rfl (Blk.new W _ _) rfl (by simp [Value.oneCell']) (by omega) (by omega) ?_; intro v' w' hown5 _ hB5 _
           have kW : Below w3.heap.size W w' := ((Below.refl _ W).alloc kB2.size _).trans (hB5.mono (by omega))
           have bs5 := (bs2.alloc (.cells #[.int .i64 y] 3)).below hB5 (by omega))
        | (go_at_call 30; refine (HA.out _ (bg.below kW (by omega)) (hM.below kW hM3.lt) (bt.below kW (by omega))).mono ?_; rintro e w6 ⟨rfl, hb6⟩))
      go_roundw
      case rel =>
        refine ⟨i + 1, q1, g', rfl, Hg', hpk.1, hpk.2, bs5.call hb6, ?_, (kB2.trans kW).call (kB2.trans kW).size hb6⟩
        have h := hown5.below hb6
        rw [Hups.out, icells, List.map_append]; exact h
      case measure => rw [ownsRow_lenOf hown5]; simp [lenOf]; omega
end Go.Proofs.Ytadpenphiagdmaa
