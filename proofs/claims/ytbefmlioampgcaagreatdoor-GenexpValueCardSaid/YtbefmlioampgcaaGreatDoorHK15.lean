/- Texts that belong together, joined: what each one holds is told ahead of it. -/
import Derived.Test.YtbefmlioampgcaaGreatDoorHCM
import Derived.Test.YtbefmlioampgcaaGreatDoorHK14
import Derived.Test.YtbefmlioampgcaaGreatDoorHCH
import Derived.Test.YtbefmlioampgcaaGreatDoorHK10
import Derived.Laws.EntriesVeiled
import Derived.Test.YtbefmlioampgcaaGreatDoorHK32
set_option linter.unusedVariables false
set_option linter.unusedSimpArgs false
/- What an expression needs, walked: depth.measure's closure, which calls itself. -/
namespace Go.Proofs.YtbefmlioampgcaaGreatDoor
open Go.RowKit
set_option linter.unusedVariables false
set_option linter.unusedSimpArgs false

/-- join, for all parts that a valid expression has. -/
theorem dJoinE (e : KE) (hf : fieldsB e = true) (ht : ∀ x ∈ e.l, tempsE x ≤ 1000) (A : Option Addr) (c : Nat) (w : World) (hr : Reads w w.heap.size 4 A e.l.length (needsC (e.l.map needE))) (hq : QuietAt w) :
    Calls Tryz.prog 59 #[.agg e.cells, .slice A e.l.length c] w (RetV (.agg (needE e).cells) w) := by
  have hlen := fieldsB_len hf
  match hl : e.l with
  | [] =>
    rw [← join_0 hl]
    exact dJoin0 e A c w
  | [a] =>
    rw [hl] at hr
    rw [← join_1 hf hl]
    have hra := regsE_le a
    have hta := ht a (by rw [hl]; simp)
    exact dJoin1 e (needE a) ⟨by simp only [needE]; omega, hta⟩ (fun h => by have := hlen.2.1 (by rw [hl]; rfl) h; omega) A c w hr hq
  | [a, b] =>
    rw [hl] at hr
    rw [← join_2 hf hl]
    have hra := regsE_le a
    have hrb := regsE_le b
    have hta := ht a (by rw [hl]; simp)
    have htb := ht b (by rw [hl]; simp)
    exact dJoin2 e (needE a) (needE b) ⟨hra.1, hra.2, hta⟩ ⟨hrb.1, hrb.2, htb⟩ (by have := hlen.2.2 (by rw [hl]; rfl); omega) A c w hr hq
  | a :: b :: x :: r => rw [hl] at hlen; simp at hlen
theorem need_info : (Tryz.prog.info? 90).map (fun i => (i.zero, i.size, i.bytes)) = some (some (.agg need0), 4, 24) := by kernel_rfl
theorem own_updB {w w' : World} {g base e size n : Nat} {v : Value} {xs : List Value} (h : w.ownsRow base e size v n xs) (hu : UpdB g w w') (hg : g < base) : w'.ownsRow base e size v n xs := by
  refine ⟨h.1, ?_⟩
  rcases h.2 with hn | ⟨b, cap, cur, rfl, hb', hgg, rest⟩
  · exact .inl hn
  · refine .inr ⟨b, cap, cur, rfl, hb', ?_, rest⟩
    rw [hu.block b (Array.getElem?_eq_some_iff.1 hgg).1 (by omega)]
    exact hgg
theorem UpdB.new {g : Nat} {w w' : World} (h : UpdB g w w') {p : Addr} (hp : w.heap.size ≤ p.block) (u : Value) : UpdB g w (w'.setCell p u) :=
  ⟨h.os, h.tape, h.output, by simpa [World.setCell] using h.size, fun k hk hne => (Below.heap_setCell w' p u k (by rintro rfl; omega)).trans (h.block k hk hne)⟩
theorem UpdB.grown {g : Nat} {w w1 w2 : World} (h : UpdB g w w1) {row : Option Nat} (hg : w1.grownBy w2 row) (hr : ∀ k, row = some k → w.heap.size ≤ k) : UpdB g w w2 :=
  ⟨hg.os.trans h.os, hg.tape.trans h.tape, hg.output.trans h.output, Nat.le_trans h.size hg.size, fun k hk hne => (hg.block k (Nat.lt_of_lt_of_le hk h.size) (fun e => by have := hr k e.symm; omega)).trans (h.block k hk hne)⟩
theorem QuietAt.upd {g : Nat} {w w' : World} (h : QuietAt w) (hu : UpdB g w w') (hg : quietGL ≠ g) : QuietAt w' := by
  obtain ⟨t, fr, h1⟩ := h
  exact ⟨t, fr, (hu.block _ (QuietAt.lt ⟨t, fr, h1⟩) hg).trans h1⟩
theorem roomL_temps : ∀ {l : List KE} {inside left r : Nat}, roomL inside left l = some r → ∀ x ∈ l, tempsE x + 1 ≤ left
  | [], _, _, _, _, x, hx => by cases hx
  | y :: l, inside, left, r, h, x, hx => by
    rw [roomL] at h
    cases hy : roomE inside left y with
    | none => rw [hy] at h; cases h
    | some r1 =>
      rw [hy] at h
      have h1 := tempsE_le' hy
      rcases List.mem_cons.1 hx with rfl | hx
      · omega
      · have := roomL_temps h x hx
        omega
/-- What the closure returns: what the expression needs, or nothing where it is not valid. -/
def msV (R : Option Nat) (x : KE) : Array Value := match R with
  | none => need0
  | some _ => (needE x).cells
def RetMs (R : Option Nat) (x : KE) (bl : Nat) (w : World) (e : Ending) (w' : World) : Prop :=
  UpdB bl w w' ∧ ∃ z : Int, e = .returned (.agg (msV R x)) ∧ Blk w' bl 3 #[.int .i64 z] ∧ ∀ r : Nat, R = some r → z = r
/-- The cells of the function value. -/
def msF (bl bv : Nat) : Array Value := #[.func (.func 57) #[] #[.pointer (some ⟨bl, 0, none⟩), .pointer (some ⟨bv, 0, none⟩)]]
def MsOk (x : KE) : Prop := ∀ (deep left bl bv B : Nat) (w : World), deep ≤ 32 → left ≤ 256 → x.In w B → B ≤ bl → bl ≠ bv → quietGL < B → QuietAt w → Blk w bl 3 #[.int .i64 left] → Blk w bv 106 (msF bl bv) →
  Calls Tryz.prog 57 #[.agg x.cells, .int .i64 ((deep : Int) + 1), .pointer (some ⟨bl, 0, none⟩), .pointer (some ⟨bv, 0, none⟩)] w (RetMs (roomE deep left x) x bl w)
theorem ms_ret {fn : Func} {p : Tmp} (h : fn.results = #[.cell p 90]) (tmps : Array Value) (w W : World) (g bl : Nat) (R : Option Nat) (x : KE) (cs : Array Value) (hcs : cs = msV R x) (hp : tmps.getD p undef = .pointer (some ⟨g, 0, none⟩)) (hB : Blk W g 90 cs)
    (hk : UpdB bl w W) (z : Int) (hz : Blk W bl 3 #[.int .i64 z]) (hR : ∀ r : Nat, R = some r → z = r) :
    bodyPost Tryz.prog fn (RetMs R x bl w) Exit.ret { tmps := tmps, defers := [] } W := by
  subst hcs
  refine bodyPost_ret (v := .agg (msV R x)) (results_cell_row h _ _ g _ _ (0, 0) _ hp hB Tryz.underlying90 rfl ?_) rfl ⟨hk, z, rfl, hz, hR⟩
  cases R <;> exact need_size
/-- The box of the result is filled. -/
theorem need_fill {w W : World} {g bl : Nat} (q : Array Value) (x0 x1 x2 x3 : Value) (hq : q = #[x0, x1, x2, x3]) (hB : Blk W g 90 need0) (hk : UpdB bl w W) (hg : w.heap.size ≤ g) (z : Int) (hz : Blk W bl 3 #[.int .i64 z]) (hne : bl ≠ g) :
    Blk ((((W.setCell ⟨g, 0, none⟩ x0).setCell ⟨g, 1, none⟩ x1).setCell ⟨g, 2, none⟩ x2).setCell ⟨g, 3, none⟩ x3) g 90 q ∧
      UpdB bl w ((((W.setCell ⟨g, 0, none⟩ x0).setCell ⟨g, 1, none⟩ x1).setCell ⟨g, 2, none⟩ x2).setCell ⟨g, 3, none⟩ x3) ∧
      Blk ((((W.setCell ⟨g, 0, none⟩ x0).setCell ⟨g, 1, none⟩ x1).setCell ⟨g, 2, none⟩ x2).setCell ⟨g, 3, none⟩ x3) bl 3 #[.int .i64 z] := by
  subst hq
  exact ⟨hB.need rfl _ _ _ _, (((hk.new hg _).new hg _).new hg _).new hg _, (((hz.far hne _).far hne _).far hne _).far hne _⟩
set_option maxRecDepth 100000 in
set_option maxHeartbeats 4000000 in
theorem dMeasure1 (e : KE) : MsOk e := by
  induction e using KE.ind with
  | h e ih =>
    intro deep left bl bv B w hd hl hi hB hlv hqB hqa hbl hbv
    have hlt := hbl.lt
    have hvt := hbv.lt
    obtain ⟨W0, hW0⟩ : ∃ W, (w.alloc (.cells e.cells 27)).alloc (.cells need0 90) = W := ⟨_, rfl⟩
    have b4 : Blk W0 w.heap.size 27 e.cells := by rw [← hW0]; exact (Blk.new w _ _).alloc _
    have b5 : Blk W0 (w.heap.size + 1) 90 need0 := by rw [← hW0]; exact blk_2 w _ _ _
    have K0 : Hid (Below w.heap.size w W0) := Lib.hid (by rw [← hW0]; exact below_2 w _ _)
    have hsz : W0.heap.size = w.heap.size + 2 := by rw [← hW0]; simp
    have bl0 := hbl.call K0.out
    have bv0 := hbv.call K0.out
    have HE := roomE_eq deep left e
    have HK := hi.one.1.1
    have HO1 := hi.one.1
    have HIN := Lib.hid hi
    have HIH := Lib.hid ih
    obtain ⟨W1, hW1⟩ : ∃ W, W0.setCell ⟨bl, 0, none⟩ (.int .i64 ((left : Int) - 1)) = W := ⟨_, rfl⟩
    have U1 : Hid (UpdB bl w W1) := Lib.hid (by rw [← hW1]; exact (UpdB.of_below K0.out).trans (UpdB.set W0 0 _))
    have bl1 : Blk W1 bl 3 #[.int .i64 ((left : Int) - 1)] := by rw [← hW1]; simpa using bl0.set_ 0 (.int .i64 ((left : Int) - 1))
    have bv1 : Blk W1 bv 106 (msF bl bv) := by rw [← hW1]; exact bv0.far (Ne.symm hlv) _
    have b41 : Blk W1 w.heap.size 27 e.cells := by rw [← hW1]; exact b4.far (by simp; omega) _
    have b51 : Blk W1 (w.heap.size + 1) 90 need0 := by rw [← hW1]; exact b5.far (by simp; omega) _
    have hsz1 : W1.heap.size = w.heap.size + 2 := by rw [← hW1, ← hsz]; simp [World.setCell]
    have HF := Lib.hid (dPlain e W1 HO1.2.2.2.1 HO1.2.2.2.2.1 HO1.2.2.2.2.2)
    have HQ1 : Hid (QuietAt W1) := Lib.hid (hqa.upd U1.out (by omega))
    simp only [KE.cells, need0] at hW0 b4 b41 HF b51 ⊢
    have c0 := bl0.cell 0
    have f0 := bl0.frozen 0
    have d0 := bl1.cell 0
    simp at c0 d0
    have e0 := b41.cell 0
    have e1 := b41.cell 1
    have e2 := b41.cell 2
    have e3 := b41.cell 3
    have e4 := b41.cell 4
    have e5 := b41.cell 5
    simp at e0 e1 e2 e3 e4 e5
    have x0 := b51.cell 0
    have x1 := b51.cell 1
    have x2 := b51.cell 2
    have x3 := b51.cell 3
    simp at x0 x1 x2 x3
    have y0 := b51.frozen 0
    have y1 := b51.frozen 1
    have y2 := b51.frozen 2
    have y3 := b51.frozen 3
    have b41' := Lib.hid b41
    have b51' : Hid (Blk W1 (w.heap.size + 1) 90 need0) := Lib.hid b51
    have HB1 := Lib.hid bl1
    have HBV := Lib.hid bv1
    have z1 : w.heap.size < W1.heap.size := by omega
    have z2 : w.heap.size + 1 < W1.heap.size := by omega
    generalize hR : roomE deep left e = R at *
    have HEE := Lib.hid HE
    clear HE ih hi hbl hbv b4 b5 bl0 bv0 bl1 bv1 b41 b51 K0 hqa hR HO1
    have FIL : Hid (∀ (W : World) (q : Array Value) (z : Int) (x0 x1 x2 x3 : Value), q = #[x0, x1, x2, x3] → Blk W (w.heap.size + 1) 90 need0 → UpdB bl w W → Blk W bl 3 #[.int .i64 z] →
      Blk ((((W.setCell ⟨w.heap.size + 1, 0, none⟩ x0).setCell ⟨w.heap.size + 1, 1, none⟩ x1).setCell ⟨w.heap.size + 1, 2, none⟩ x2).setCell ⟨w.heap.size + 1, 3, none⟩ x3) (w.heap.size + 1) 90 q ∧
      UpdB bl w ((((W.setCell ⟨w.heap.size + 1, 0, none⟩ x0).setCell ⟨w.heap.size + 1, 1, none⟩ x1).setCell ⟨w.heap.size + 1, 2, none⟩ x2).setCell ⟨w.heap.size + 1, 3, none⟩ x3) ∧
      Blk ((((W.setCell ⟨w.heap.size + 1, 0, none⟩ x0).setCell ⟨w.heap.size + 1, 1, none⟩ x1).setCell ⟨w.heap.size + 1, 2, none⟩ x2).setCell ⟨w.heap.size + 1, 3, none⟩ x3) bl 3 #[.int .i64 z]) := Lib.hid fun W q z x0 x1 x2 x3 hq h1 h2 h3 => need_fill q x0 x1 x2 x3 hq h1 h2 (by omega) z h3 (by omega)
    by_cases h0 : left = 0
    · have h0I : (left : Int) - 1 < 0 := by omega
      obtain rfl : R = none := by rw [HEE.out]; simp [h0]
      clear h0
      go_enter Tryz.func57, Tryz.ntmps57
      go_wp2_with fail
      obtain ⟨y1, y2, y3⟩ := FIL.out W1 need0 ((left : Int) - 1) _ _ _ _ rfl b51'.out U1.out HB1.out
      exact ms_ret rfl _ w _ (w.heap.size + 1) bl none e need0 rfl rfl y1 y2 _ y3 (fun r h => by cases h)
    · have h0I : ¬ (left : Int) - 1 < 0 := by omega
      by_cases hdp : 32 ≤ deep
      · have hdI : (32 : Int) < (deep : Int) + 1 := by omega
        obtain rfl : R = none := by rw [HEE.out]; simp [hdp]
        go_enter Tryz.func57, Tryz.ntmps57
        go_wp2_with fail
        obtain ⟨y1, y2, y3⟩ := FIL.out W1 need0 ((left : Int) - 1) _ _ _ _ rfl b51'.out U1.out HB1.out
        exact ms_ret rfl _ w _ (w.heap.size + 1) bl none e need0 rfl rfl y1 y2 _ y3 (fun r h => by cases h)
      · have hdI : ¬ (32 : Int) < (deep : Int) + 1 := by omega
        cases hfb : fieldsB e with
        | false =>
          rw [hfb] at HF
          obtain rfl : R = none := by rw [HEE.out, hfb]; simp
          clear hfb
          go_enter Tryz.func57, Tryz.ntmps57
          go_wp2_with (go_at_call 58; (with_reducible refine HF.out.mono ?_); rintro e1 w2 ⟨rfl, hb2⟩
                       have K2 := Lib.hid hb2
                       have g6 := Blk.call b51'.out hb2
                       have hs2 := hb2.size
                       simp only [need0] at g6
                       have p0 := g6.cell 0
                       have p1 := g6.cell 1
                       have p2 := g6.cell 2
                       have p3 := g6.cell 3
                       simp at p0 p1 p2 p3
                       have q0 := g6.frozen 0
                       have q1 := g6.frozen 1
                       have q2 := g6.frozen 2
                       have q3 := g6.frozen 3
                       clear hb2 g6)
          obtain ⟨y1, y2, y3⟩ := FIL.out w2 need0 ((left : Int) - 1) _ _ _ _ rfl (b51'.out.call K2.out) (U1.out.trans (UpdB.of_below K2.out)) (HB1.out.call K2.out)
          exact ms_ret rfl _ w _ (w.heap.size + 1) bl none e need0 rfl rfl y1 y2 _ y3 (fun r h => by cases h)
        | true =>
          rw [hfb] at HF
          have HFB := Lib.hid hfb
          have HRE : Hid (R = roomL (deep + 1) (left - 1) e.l) := Lib.hid (by rw [HEE.out, hfb]; simp [h0, hdp])
          have hlen := (fieldsB_len hfb).1
          have HLT := Lib.hid hlt
          clear hfb HEE
          go_enter Tryz.func57, Tryz.ntmps57
          go_wp2_with (go_at_call 58; (with_reducible refine HF.out.mono ?_); rintro e1 w2 ⟨rfl, hb2⟩
                       have K2 := Lib.hid hb2
                       have hs2 := hb2.size
                       have g5 := (Blk.call b41'.out hb2).cell 5
                       simp at g5
                       clear hb2)
          go_loopw [7, 28] (fun a i wr => ∃ (k r : Nat) (A : Option Addr) (c : Nat), k ≤ e.l.length ∧ i = .int .i64 k ∧ a = .slice A k c ∧ r ≤ 256 ∧ Hid (roomL (deep + 1) (left - 1) (e.l.take k) = some r) ∧ Hid (UpdB bl w2 wr) ∧ Hid (Blk wr bl 3 #[.int .i64 r]) ∧ Hid (wr.ownsRow w2.heap.size 90 4 (.slice A k c) k (needsC ((e.l.take k).map needE)))) (fun _ i _ => e.l.length - (intOf i).toNat)
          case atStart =>
            refine ⟨0, left - 1, none, 0, Nat.zero_le _, rfl, rfl, by omega, Lib.hid (by rw [List.take_zero, roomL]), Lib.hid (UpdB.refl _ _), Lib.hid ?_, Lib.hid (World.ownsRow_nil _ _ _ _)⟩
            have := HB1.out.call K2.out
            rwa [show ((left : Int) - 1) = ((left - 1 : Nat) : Int) by omega] at this
          case round =>
            obtain ⟨k, r, A, c, hk, rfl, rfl, hr, HRM, U, L, O⟩ := hrel
            have UT : UpdB bl w wr := (U1.out.trans (UpdB.of_below (K2.out))).trans U.out
            have hwr := U.out.size
            have hwr2 := UT.size
            by_cases hlt : k < e.l.length
            · have hltI : (k : Int) < e.l.length := by omega
              obtain ⟨b, off, x, hA, hb, hx, hin, r0, r1, r2, r3, r4, r5⟩ := kes_six (HIN.out.parts.below ((UT.below HLT.out).mono hB)) hlt
              have G6 := ((b51'.out.call K2.out).upd U.out (by omega))
              have hblt := HLT.out
              have HIHx := HIH.out x (List.mem_of_getElem? hx)
              rw [hA] at g5 ⊢
              obtain ⟨Wc, hWc⟩ : ∃ W, wr.alloc (.cells x.cells 27) = W := ⟨_, rfl⟩
              have Kc : Below wr.heap.size wr Wc := by rw [← hWc]; exact (Below.refl _ _).alloc (Nat.le_refl _) _
              have bvc : Blk Wc bv 106 (msF bl bv) := (((HBV.out.call K2.out).upd U.out (Ne.symm hlv)).call Kc)
              have HCx := Lib.hid (HIHx (deep + 1) r bl bv B Wc (by omega) hr (hin.below (Kc.mono (by have := HLT.out; omega))) hB hlv hqB (((HQ1.out.upd (UpdB.of_below (g := bl) K2.out) (by omega)).upd U.out (by omega)).below Kc (by have := HLT.out; omega)) (L.out.call Kc) bvc)
              have hbr : b < wr.heap.size := by have := HLT.out; omega
              have cbv := bvc.cell 0
              simp [msF] at cbv
              have HRS : Hid (∀ R', roomE (deep + 1) r x = R' → (R' = none → roomL (deep + 1) (left - 1) e.l = none) ∧ (∀ r', R' = some r' → roomL (deep + 1) (left - 1) (e.l.take (k + 1)) = some r' ∧ r' ≤ 256)) := Lib.hid fun R' h => ⟨fun h1 => roomL_fail hx HRM.out (h.trans h1), fun r' h1 => ⟨by rw [roomL_snoc hx HRM.out, h, h1], by have := roomE_le x _ _ _ (h.trans h1); omega⟩⟩
              have HTK : Hid (e.l.take (k + 1) = e.l.take k ++ [x]) := Lib.hid (by rw [List.take_add_one, hx]; rfl)
              have HOc := Lib.hid (O.out.alloc (.cells x.cells 27))
              rw [hWc] at HOc
              have UTc := Lib.hid (UT.trans (UpdB.of_below Kc))
              have Uc := Lib.hid (U.out.trans (UpdB.of_below Kc))
              obtain ⟨R', hR'⟩ : ∃ R', roomE (deep + 1) r x = R' := ⟨_, rfl⟩
              obtain ⟨hRn, hRs⟩ := HRS.out R' hR'
              rw [hR'] at HCx
              have hdd : ((deep + 1 : Nat) : Int) + 1 = (deep : Int) + 1 + 1 := by omega
              rw [hdd] at HCx
              have HG6 := Lib.hid (G6.call Kc)
              have b9 : Blk Wc wr.heap.size 27 x.cells := by rw [← hWc]; exact Blk.new _ _ _
              simp only [KE.cells] at hWc HCx b9
              have v0 := b9.cell 0
              have v1 := b9.cell 1
              have v2 := b9.cell 2
              have v3 := b9.cell 3
              have v4 := b9.cell 4
              have v5 := b9.cell 5
              simp at v0 v1 v2 v3 v4 v5
              clear b9 hdd hx hin hA HIHx Kc bvc UT HRS hR' G6
              have hszc : Wc.heap.size = wr.heap.size + 1 := by rw [← hWc]; simp
              have hgo : ∀ a b : Int, a + 1 + 1 = a + 1 + 1 := fun _ _ => rfl
              cases R' with
              | none =>
                have HN := Lib.hid (hRn rfl)
                clear hRn hRs hgo
                go_wp2_with (go_at_call 57; (with_reducible refine HCx.out.mono ?_); rintro e3 w3 ⟨hu, z, he, hb3, -⟩
                             obtain rfl : e3 = .returned (.agg #[.bool false, .bool false, .int .i64 0, .int .i64 0]) := he
                             have HU := Lib.hid hu
                             have HB3 := Lib.hid hb3
                             have hs3 := hu.size
                             have g6 := HG6.out.upd hu (by omega)
                             have HG3 := Lib.hid g6
                             simp only [need0] at g6
                             have p0 := g6.cell 0
                             have p1 := g6.cell 1
                             have p2 := g6.cell 2
                             have p3 := g6.cell 3
                             simp at p0 p1 p2 p3
                             have q0 := g6.frozen 0
                             have q1 := g6.frozen 1
                             have q2 := g6.frozen 2
                             have q3 := g6.frozen 3
                             have p4 := g6.lt
                             have p5 : ¬ w.heap.size + 1 = w3.heap.size := by omega
                             clear hu hb3 g6)
                obtain ⟨y1, y2, y3⟩ := FIL.out w3 need0 z _ _ _ _ rfl HG3.out (UTc.out.trans HU.out) HB3.out
                exact ms_ret rfl _ w _ (w.heap.size + 1) bl R e need0 (by rw [HRE.out, HN.out]; rfl) rfl (y1.alloc _) (y2.trans (UpdB.alloc _ _)) z (y3.alloc _) (fun r h => by rw [HRE.out, HN.out] at h; cases h)
              | some r' =>
                obtain ⟨hRT, hr'⟩ := hRs r' rfl
                have HRT := Lib.hid hRT
                clear hRn hRs hgo hRT
                obtain ⟨i0, hi0, hz0, hz1, hz2⟩ := info_parts need_info
                go_wp2_with first
                  | (go_at_call 57; (with_reducible refine HCx.out.mono ?_); rintro e3 w3 ⟨hu, z, he, hb3, hz⟩
                     obtain rfl : e3 = .returned (.agg #[.bool true, .bool (safeE x), .int .i64 (regsE x), .int .i64 (tempsE x)]) := he
                     obtain rfl : z = r' := hz r' rfl
                     have HU := Lib.hid hu
                     have HB3 := Lib.hid hb3
                     have hs3 := hu.size
                     have HO3 := Lib.hid (own_updB HOc.out hu (by omega))
                     clear hu hb3 hz)
                  | (at_builtin; refine app_own Tryz.underlying107 hi0 hz0 hz1 hz2 rfl (by decide) ((HO3.out.alloc _).alloc _) (by simp; omega) rfl (.tmp 41) (.tmp 43) rfl rfl (w3.heap.size + 1) 1 1 #[.bool true, .bool (safeE x), .int .i64 (regsE x), .int .i64 (tempsE x)] rfl (blk_2 w3 _ _ _) rfl (by simp [Value.oneCell']) (by omega) (by omega) ?_; intro v' w' hown hg hb hat
                     obtain ⟨A2, c2, rfl⟩ := own_form hown
                     have U2 := Lib.hid ((((Uc.out.trans HU.out).trans (UpdB.alloc w3 _)).trans (UpdB.alloc _ _)).grown hg (fun k hk => (HO3.out.lt k hk).1))
                     have L2 := Lib.hid (((HB3.out.alloc _).alloc _).grown hg (fun e => by have := (HO3.out.lt _ e.symm).1; omega))
                     have O2 : Hid (w'.ownsRow w2.heap.size 90 4 (.slice A2 (k + 1) c2) (k + 1) (needsC ((e.l.take (k + 1)).map needE))) := Lib.hid (by
                       rw [HTK.out, List.map_append]
                       simpa [needsC, needE, NeedL.cells] using hown)
                     clear hown hg hb hat)
                go_roundw
                case rel => exact ⟨k + 1, r', A2, c2, by omega, by go_num, rfl, hr', HRT, U2, L2, O2⟩
                case measure => simp [intOf]; omega
            · have hltI : ¬ (k : Int) < e.l.length := by omega
              obtain rfl : k = e.l.length := by omega
              have hRM := HRM.out
              rw [List.take_of_length_le (Nat.le_refl _)] at hRM
              have hO := O.out
              rw [List.take_of_length_le (Nat.le_refl _)] at hO
              have HJ := Lib.hid (dJoinE e HFB.out (fun x hx => by have := roomL_temps hRM x hx; omega) A c wr (Reads.of_own hO) ((HQ1.out.upd (UpdB.of_below (g := bl) K2.out) (by have := HLT.out; omega)).upd U.out (by have := HLT.out; omega)))
              have HRR : Hid (R = some r) := Lib.hid (HRE.out.trans hRM)
              simp only [KE.cells, needE, NeedL.cells] at HJ
              have hblt := HLT.out
              have g4 := (b41'.out.call K2.out).upd U.out (by omega)
              have g6 := (b51'.out.call K2.out).upd U.out (by omega)
              have v0 := g4.cell 0
              have v1 := g4.cell 1
              have v2 := g4.cell 2
              have v3 := g4.cell 3
              have v4 := g4.cell 4
              have v5 := g4.cell 5
              simp at v0 v1 v2 v3 v4 v5
              have HG6 := Lib.hid g6
              have UTT := Lib.hid UT
              have z3 : w.heap.size < wr.heap.size := g4.lt
              have z4 : w.heap.size + 1 < wr.heap.size := g6.lt
              clear hO hRM g4 g6 UT
              go_wp2_with first
                | (go_at_call 59; (with_reducible refine HJ.out.mono ?_); rintro e3 w3 ⟨rfl, hb3⟩
                   have K3 := Lib.hid hb3
                   have hs3 := hb3.size
                   have h6 := HG6.out.call hb3
                   simp only [need0] at h6
                   have p0 := h6.cell 0
                   have p1 := h6.cell 1
                   have p2 := h6.cell 2
                   have p3 := h6.cell 3
                   simp at p0 p1 p2 p3
                   have q0 := h6.frozen 0
                   have q1 := h6.frozen 1
                   have q2 := h6.frozen 2
                   have q3 := h6.frozen 3
                   clear hb3 h6)
              obtain ⟨y1, y2, y3⟩ := FIL.out w3 (needE e).cells r _ _ _ _ rfl (HG6.out.call K3.out) (UTT.out.trans (UpdB.of_below K3.out)) (L.out.call K3.out)
              exact ms_ret rfl _ w _ (w.heap.size + 1) bl R e (needE e).cells (by rw [HRR.out]; rfl) rfl y1 y2 _ y3 (fun r2 h => by rw [HRR.out] at h; cases h; rfl)
end Go.Proofs.YtbefmlioampgcaaGreatDoor

/- What an expression needs, walked: depth.measure, Depth and Temps. -/
namespace Go.Proofs.YtbefmlioampgcaaGreatDoor
open Go.RowKit
set_option linter.unusedVariables false
set_option linter.unusedSimpArgs false

theorem blk_4 (w : World) (o o' o'' : Obj) (t : TypeId) (cs : Array Value) : Blk ((((w.alloc o).alloc o').alloc o'').alloc (.cells cs t)) (w.heap.size + 1 + 1 + 1) t cs := by
  have := blk_3 (w.alloc o) o' o'' t cs
  simpa using this
theorem msV_form (R : Option Nat) (x : KE) : ∃ (b1 b2 : Bool) (n1 n2 : Nat), msV R x = #[.bool b1, .bool b2, .int .i64 n1, .int .i64 n2] ∧ n1 = (if R.isSome then regsE x else 0) ∧ n2 = (if R.isSome then tempsE x else 0) ∧ b2 = (R.isSome && safeE x) := by
  cases R with
  | none => exact ⟨_, _, 0, 0, rfl, rfl, rfl, rfl⟩
  | some r => exact ⟨_, _, _, _, rfl, rfl, rfl, rfl⟩
set_option maxRecDepth 100000 in
set_option maxHeartbeats 4000000 in
theorem dMeasure (e : KE) (B : Nat) (w : World) (hi : e.In w B) (hB : B ≤ w.heap.size) (hqB : quietGL < B) (hq : QuietAt w) : Calls Tryz.prog 37 #[.agg e.cells] w (RetV (.agg (msV (roomE 0 256 e) e)) w) := by
  obtain ⟨W3, hW3⟩ : ∃ W, ((w.alloc (.cells e.cells 27)).alloc (.cells need0 90)).alloc (.cells #[.int .i64 256] 3) = W := ⟨_, rfl⟩
  have hs3 : W3.heap.size = w.heap.size + 1 + 1 + 1 := by rw [← hW3]; simp
  obtain ⟨W0, hW0⟩ : ∃ W, W3.alloc (.cells (msF (w.heap.size + 1 + 1) W3.heap.size) 106) = W := ⟨_, rfl⟩
  have hk3 : Below w.heap.size w W3 := by rw [← hW3]; exact (below_2 w _ _).alloc (by simp; omega) _
  have hk : Below w.heap.size w W0 := by rw [← hW0]; exact hk3.alloc (by omega) _
  have b3 : Blk W0 w.heap.size 27 e.cells := by rw [← hW0, ← hW3]; exact (((Blk.new w _ _).alloc _).alloc _).alloc _
  have b4 : Blk W0 (w.heap.size + 1) 90 need0 := by rw [← hW0, ← hW3]; exact ((blk_2 w _ _ _).alloc _).alloc _
  have b5 : Blk W0 (w.heap.size + 1 + 1) 3 #[.int .i64 256] := by rw [← hW0, ← hW3]; exact (blk_3 w _ _ _ _).alloc _
  have b6 : Blk W0 W3.heap.size 106 (msF (w.heap.size + 1 + 1) W3.heap.size) := by rw [← hW0]; exact Blk.new W3 _ _
  have HC := Lib.hid (dMeasure1 e 0 256 (w.heap.size + 1 + 1) W3.heap.size B W0 (by omega) (by omega) (hi.below (hk.mono hB)) (by omega) (by omega) hqB (hq.below hk hq.lt) b5 b6)
  rw [show (((0 : Nat) : Int) + 1) = 1 from rfl] at HC
  generalize roomE 0 256 e = R at *
  obtain ⟨x0, x1, x2, x3, hv, -⟩ := msV_form R e
  have HV := Lib.hid hv
  unfold RetMs at HC
  rw [hv] at HC ⊢
  have c6 := b6.cell 0
  simp [msF] at c6
  have HZ := Lib.hid b5.lt
  have HK := Lib.hid hk
  have HB4 := Lib.hid b4
  have z1 := b3.lt
  have z2 := b4.lt
  have z3 := b6.lt
  simp only [KE.cells] at b3
  simp only [need0] at b4
  have c0 := b3.cell 0
  have c1 := b3.cell 1
  have c2 := b3.cell 2
  have c3 := b3.cell 3
  have c4 := b3.cell 4
  have c5 := b3.cell 5
  simp at c0 c1 c2 c3 c4 c5
  have d0 := b4.cell 0
  have d1 := b4.cell 1
  have d2 := b4.cell 2
  have d3 := b4.cell 3
  simp at d0 d1 d2 d3
  have f0 := b4.frozen 0
  have f1 := b4.frozen 1
  have f2 := b4.frozen 2
  have f3 := b4.frozen 3
  have hz3 : w.heap.size + 1 + 1 < W3.heap.size := by omega
  clear hi b3 b4 b5 b6 hk hv hs3 hk3
  simp only [KE.cells, msF, need0] at hW0 hW3 HC ⊢
  go_enter Tryz.func37, Tryz.ntmps37
  go_wp2_with first
    | (go_at_call 57; (with_reducible refine HC.out.mono ?_); rintro e3 w3 ⟨hu, z, rfl, -, -⟩
       have h4 := HB4.out.upd hu (by omega)
       have HU := Lib.hid (hu.below HZ.out)
       have H4 := Lib.hid h4
       have hs := hu.size
       simp only [need0] at h4
       have p0 := h4.cell 0
       have p1 := h4.cell 1
       have p2 := h4.cell 2
       have p3 := h4.cell 3
       simp at p0 p1 p2 p3
       have q0 := h4.frozen 0
       have q1 := h4.frozen 1
       have q2 := h4.frozen 2
       have q3 := h4.frozen 3
       clear hu h4)
  have x4 := Blk.need H4.out rfl (.bool x0) (.bool x1) (.int .i64 x2) (.int .i64 x3)
  have y4 := Below.need (HK.out.trans (HU.out.mono (Nat.le_trans (Nat.le_succ _) (Nat.le_succ _)))) (Nat.le_succ _) (.bool x0) (.bool x1) (.int .i64 x2) (.int .i64 x3)
  exact bodyPost_ret (v := .agg #[.bool x0, .bool x1, .int .i64 x2, .int .i64 x3]) (results_cell_row rfl _ _ _ _ _ (0, 0) _ rfl x4 Tryz.underlying90 rfl need_size) rfl ⟨rfl, y4⟩
@[go_sem ↓] theorem need_field2 (w : World) (a b c d : Value) : (Instr.field 90 (.agg #[a, b, c, d]) 2).run Tryz.prog w = .ok c w := by kernel_rfl
@[go_sem ↓] theorem need_field3 (w : World) (a b c d : Value) : (Instr.field 90 (.agg #[a, b, c, d]) 3).run Tryz.prog w = .ok d w := by kernel_rfl
/-- How many registers an expression needs, as Depth says it. -/
def depthV (e : KE) : Nat := if validE e then regsE e else 0
def tempsV (e : KE) : Nat := if validE e then tempsE e else 0
set_option maxRecDepth 100000 in
set_option maxHeartbeats 4000000 in
theorem dDepth (e : KE) (B : Nat) (w : World) (hi : e.In w B) (hB : B ≤ w.heap.size) (hqB : quietGL < B) (hq : QuietAt w) : Calls Tryz.prog 19 #[.agg e.cells] w (RetV (.int .i64 (depthV e)) w) := by
  obtain ⟨W0, hW0⟩ : ∃ W, w.alloc (.cells e.cells 27) = W := ⟨_, rfl⟩
  have hk : Below w.heap.size w W0 := by rw [← hW0]; exact (Below.refl _ _).alloc (Nat.le_refl _) _
  have b3 : Blk W0 w.heap.size 27 e.cells := by rw [← hW0]; exact Blk.new w _ _
  have HC := Lib.hid (dMeasure e B W0 (hi.below (hk.mono hB)) (Nat.le_trans hB hk.size) hqB (hq.below hk hq.lt))
  have HD : Hid (depthV e = if validE e then regsE e else 0) := Lib.hid rfl
  have hve : validE e = (roomE 0 256 e).isSome := rfl
  rw [hve] at HD
  generalize roomE 0 256 e = R at *
  obtain ⟨x0, x1, x2, x3, hv, h2, h3, -⟩ := msV_form R e
  obtain rfl : depthV e = x2 := HD.out.trans h2.symm
  rw [hv] at HC
  generalize depthV e = D at *
  have HK := Lib.hid hk
  simp only [KE.cells] at b3 hW0 HC ⊢
  have c0 := b3.cell 0
  have c1 := b3.cell 1
  have c2 := b3.cell 2
  have c3 := b3.cell 3
  have c4 := b3.cell 4
  have c5 := b3.cell 5
  simp at c0 c1 c2 c3 c4 c5
  have z1 := b3.lt
  clear hi b3 hk hv h2 h3 hve
  go_enter Tryz.func19, Tryz.ntmps19
  go_wp2_with first
    | (go_at_call 37; (with_reducible refine HC.out.mono ?_); rintro e3 w3 ⟨rfl, hb⟩)
  go_ret
  exact ⟨rfl, HK.out.trans (hb.mono HK.out.size)⟩
end Go.Proofs.YtbefmlioampgcaaGreatDoor

/- Steps of the emitter, in the form in which code, decide and dyadic use them; which expressions are compiled. -/
namespace Go.Proofs.YtbefmlioampgcaaGreatDoor
open Go.RowKit
set_option linter.unusedVariables false
set_option linter.unusedSimpArgs false

/-- The emitter's state behind some calls since world w0. -/
def EmS (g : EmL) (bm base : Nat) (w0 : World) (ls : List LineL) (made : Nat) (next : List UInt8) (W : World) : Prop := Em g bm base ls made next W ∧ EmK bm base w0 W
/-- A call that leads on. -/
def RetSt (g : EmL) (bm base : Nat) (w0 : World) (ls : List LineL) (made : Nat) (next : List UInt8) (v : Value) (e : Ending) (W' : World) : Prop := e = .returned v ∧ EmS g bm base w0 ls made next W'
section
variable {g : EmL} {bm base made : Nat} {w0 W : World} {ls : List LineL} {next : List UInt8}
theorem EmS.below {W' : World} (h : EmS g bm base w0 ls made next W) (hb : Below W.heap.size W W') : EmS g bm base w0 ls made next W' := ⟨h.1.below hb, h.2.trans (EmK.of_below hb h.1.base_le)⟩
theorem EmS.bel (h : EmS g bm base w0 ls made next W) : Below base w0 W := h.2.1
theorem EmS.of_ret {m' : Nat} {ls' : List LineL} {n' : List UInt8} (h : EmS g bm base w0 ls made next W) {e : Ending} {W' : World} (hr : RetEm g bm base ls' m' n' W e W') : RetSt g bm base w0 ls' m' n' (.tuple #[]) e W' := ⟨hr.1, hr.2.1, h.2.trans hr.2.2⟩
theorem putS {F arg : Int} (hF : 0 ≤ F) (hl : ls.length ≤ 1000000) (h : EmS g bm base w0 ls made next W) :
    Calls Tryz.prog 40 #[.pointer (some ⟨bm, 0, none⟩), .int .u8 F, .int .i32 arg] W (RetSt g bm base w0 (ls ++ [⟨next, F.toNat, arg, [], []⟩]) made [] (.tuple #[])) :=
  (gPutF g bm base ls made next F arg W hF hl h.1).mono fun _ _ hr => h.of_ret hr
theorem jumpS {t : List UInt8} (hl : ls.length ≤ 1000000) (h : EmS g bm base w0 ls made next W) :
    Calls Tryz.prog 63 #[.pointer (some ⟨bm, 0, none⟩), .string (strB t)] W (RetSt g bm base w0 (ls ++ [⟨next, 10, 0, t, []⟩]) made [] (.tuple #[])) :=
  (gJump g bm base ls made next t hl W h.1).mono fun _ _ hr => h.of_ret hr
theorem freshS {B : Nat} (hm : made < 1000000) (hgl : g.label.length ≤ 100) (hL : LaidG B W) (hB : B ≤ base) (h : EmS g bm base w0 ls made [] W) :
    Calls Tryz.prog 62 #[.pointer (some ⟨bm, 0, none⟩)] W (RetSt g bm base w0 ls (made + 1) [] (.string (strB (freshL g.env (made + 1))))) :=
  (gFresh g bm base B ls made hm hgl W h.1 hL hB).mono fun _ _ hr => ⟨hr.1, hr.2.1, h.2.trans hr.2.2⟩
theorem operS {o : Nat} (h1 : 1 ≤ o) (h2 : o ≤ 22) (h20 : o ≠ 20) (h21 : o ≠ 21) (hl : ls.length ≤ 900000) (h : EmS g bm base w0 ls made [] W) :
    Calls Tryz.prog 64 #[.pointer (some ⟨bm, 0, none⟩), .int .u8 o] W (RetSt g bm base w0 (ls ++ operL o) made [] (.tuple #[])) :=
  (gOperate g bm base ls made o h1 h2 h20 h21 hl W h.1).mono fun _ _ hr => h.of_ret hr
/-- A label waits. -/
theorem EmS.wait {t : List UInt8} (h : EmS g bm base w0 ls made next W) : EmS g bm base w0 ls made t (W.setCell ⟨bm, 10, none⟩ (.string (strB t))) := by
  obtain ⟨⟨h1, v, hB, hO⟩, hk⟩ := h
  have hne := own_blk_ne hO hB (by decide)
  refine ⟨⟨h1, v, hB.set_ 10 _, hO.1, ?_⟩, hk.trans (EmK.set h1 _ _ _)⟩
  rcases hO.2 with hn | ⟨b, cap, cur, e, hb', hgg, rest⟩
  · exact .inl hn
  · refine .inr ⟨b, cap, cur, e, hb', ?_, rest⟩
    rw [Below.heap_setCell W _ _ b (by rintro rfl; exact hne (by rw [e]; rfl))]
    exact hgg
theorem EmS.at10 (h : EmS g bm base w0 ls made next W) : W.cell? ⟨bm, 10, none⟩ = some (.string (strB next)) ∧ W.frozen? ⟨bm, 10, none⟩ = false ∧ bm < W.heap.size := by
  obtain ⟨⟨h1, v, hB, hO⟩, hk⟩ := h
  exact ⟨hB.cell 10, hB.frozen 10, hB.lt⟩
end
/-- An expression that a valid one holds. -/
def OkE (e : KE) : Prop := ∃ inside left r, left ≤ 256 ∧ roomE inside left e = some r
theorem roomL_mono_of : ∀ {l : List KE} {i i' left d r : Nat}, (∀ e ∈ l, ∀ (a r : Nat), roomE i a e = some r → roomE i' (a + d) e = some (r + d)) → roomL i left l = some r → roomL i' (left + d) l = some (r + d)
  | [], i, i', left, d, r, _, h => by rw [roomL] at h ⊢; injection h with h; rw [h]
  | x :: l, i, i', left, d, r, hall, h => by
    rw [roomL] at h ⊢
    cases hx : roomE i left x with
    | none => rw [hx] at h; cases h
    | some y =>
      rw [hx] at h
      rw [hall x (by simp) _ _ hx]
      exact roomL_mono_of (l := l) (fun e he => hall e (by simp [he])) h
theorem roomE_mono (e : KE) : ∀ {i i' left d r : Nat}, i' ≤ i → roomE i left e = some r → roomE i' (left + d) e = some (r + d) := by
  induction e using KE.ind with
  | h e ih =>
    intro i i' left d r hi h
    rw [roomE_eq] at h ⊢
    split at h
    · cases h
    · rename_i hc
      simp only [Bool.or_eq_true, decide_eq_true_eq, Bool.not_eq_true', not_or] at hc
      obtain ⟨⟨c1, c2⟩, c3⟩ := hc
      rw [if_neg (by simp only [Bool.or_eq_true, decide_eq_true_eq, Bool.not_eq_true', not_or]; exact ⟨⟨by omega, by omega⟩, c3⟩)]
      rw [show left + d - 1 = left - 1 + d by omega]
      exact roomL_mono_of (fun x hx a r h => ih x hx (by omega) h) h
theorem OkE.valid {e : KE} (h : OkE e) : validE e = true := by
  obtain ⟨i, left, r, hl, hr⟩ := h
  have := roomE_mono e (i' := 0) (d := 256 - left) (Nat.zero_le i) hr
  rw [show left + (256 - left) = 256 by omega] at this
  unfold validE
  rw [this]; rfl
theorem roomL_left : ∀ {l : List KE} {i left r : Nat}, roomL i left l = some r → ∀ x ∈ l, ∃ a b, a ≤ left ∧ roomE i a x = some b
  | [], _, _, _, _, x, hx => by cases hx
  | y :: l, i, left, r, h, x, hx => by
    rw [roomL] at h
    cases hy : roomE i left y with
    | none => rw [hy] at h; cases h
    | some r1 =>
      rw [hy] at h
      have h1 := roomE_le y _ _ _ hy
      rcases List.mem_cons.1 hx with rfl | hx
      · exact ⟨_, _, Nat.le_refl _, hy⟩
      · obtain ⟨a, b, h2, h3⟩ := roomL_left h x hx
        exact ⟨a, b, by omega, h3⟩
theorem OkE.part {e x : KE} (h : OkE e) (hx : x ∈ e.l) : OkE x := by
  obtain ⟨i, left, r, hl, hr⟩ := h
  rw [roomE_eq] at hr
  split at hr
  · cases hr
  · obtain ⟨a, b, h1, h2⟩ := roomL_left hr x hx
    exact ⟨_, a, b, by omega, h2⟩
theorem OkE.fields {e : KE} (h : OkE e) : fieldsB e = true := (KE.all_iff.1 (validE_all h.valid)).1
theorem OkE.depth {e : KE} (h : OkE e) : depthV e = regsE e := by unfold depthV; rw [h.valid]; rfl
theorem OkE.of_valid {e : KE} (h : validE e = true) : OkE e := by
  unfold validE at h
  obtain ⟨r, hr⟩ := Option.isSome_iff_exists.1 h
  exact ⟨0, 256, r, Nat.le_refl _, hr⟩
/-- The arrays that an expression indexes exist. -/
def KnownE (g : EmL) (e : KE) : Prop := e.all (fun x => x.kind = 3 → x.v < g.vars.length)
theorem KnownE.part {g : EmL} {e x : KE} (h : KnownE g e) (hx : x ∈ e.l) : KnownE g x := (KE.all_iff.1 h).2 x hx
/-- The code of an expression is emitted. -/
def CodeOk (g : EmL) (bm base B : Nat) (e : KE) : Prop := ∀ (t : Int) (ls : List LineL) (made : Nat) (w : World), 0 ≤ t → t + nodesE e ≤ 1000000 → ls.length + 8 * nodesE e ≤ 900000 → made + nodesE e ≤ 900000 → e.In w B → LaidG B w → EnvIn g w B → B ≤ base →
  Em g bm base ls made [] w → Calls Tryz.prog 22 #[.pointer (some ⟨bm, 0, none⟩), .agg e.cells, .int .i32 t] w (RetEm g bm base (ls ++ (codeE g.env e t made).1) (codeE g.env e t made).2 [] w)
theorem codeS {g : EmL} {bm base B : Nat} {e : KE} (hc : CodeOk g bm base B e) {t : Int} {ls : List LineL} {made : Nat} {w0 W : World} (h1 : 0 ≤ t) (h2 : t + nodesE e ≤ 1000000) (h3 : ls.length + 8 * nodesE e ≤ 900000) (h4 : made + nodesE e ≤ 900000)
    (hi : e.In w0 B) (hL : LaidG B w0) (hn : EnvIn g w0 B) (hB : B ≤ base) (h : EmS g bm base w0 ls made [] W) :
    Calls Tryz.prog 22 #[.pointer (some ⟨bm, 0, none⟩), .agg e.cells, .int .i32 t] W (RetSt g bm base w0 (ls ++ (codeE g.env e t made).1) (codeE g.env e t made).2 [] (.tuple #[])) :=
  (hc t ls made W h1 h2 h3 h4 (hi.below (h.bel.mono hB)) (hL.on (h.bel.mono hB)) (hn.below (h.bel.mono hB)) hB h.1).mono fun _ _ hr => h.of_ret hr
/-- Two parts: their cells. -/
theorem two_at {w : World} {B : Nat} {A : Option Addr} {a b : KE} (h : kesIn w B A [a, b]) : ∃ q off, A = some ⟨q, off, none⟩ ∧ q < B ∧
    ∀ w', Below B w w' → (w'.cell? ⟨q, off, none⟩ = some (.int .u8 a.kind) ∧ w'.cell? ⟨q, off + 1, none⟩ = some (.int .u8 a.oper) ∧ w'.cell? ⟨q, off + 2, none⟩ = some (.int .u8 a.tk) ∧ w'.cell? ⟨q, off + 3, none⟩ = some (.int .i32 a.n) ∧ w'.cell? ⟨q, off + 4, none⟩ = some (.int .i64 a.v) ∧ w'.cell? ⟨q, off + 5, none⟩ = some (.slice a.A a.l.length a.c)) ∧
      (w'.cell? ⟨q, off + 6, none⟩ = some (.int .u8 b.kind) ∧ w'.cell? ⟨q, off + 6 + 1, none⟩ = some (.int .u8 b.oper) ∧ w'.cell? ⟨q, off + 6 + 2, none⟩ = some (.int .u8 b.tk) ∧ w'.cell? ⟨q, off + 6 + 3, none⟩ = some (.int .i32 b.n) ∧ w'.cell? ⟨q, off + 6 + 4, none⟩ = some (.int .i64 b.v) ∧ w'.cell? ⟨q, off + 6 + 5, none⟩ = some (.slice b.A b.l.length b.c)) := by
  obtain ⟨q, off, rfl, hq, hc⟩ := h.2.1.addr (by simp) (by omega)
  refine ⟨q, off, rfl, hq, fun w' hb => ?_⟩
  have hk : ∀ o, w'.cell? ⟨q, o, none⟩ = w.cell? ⟨q, o, none⟩ := fun o => hb.cell (p := ⟨q, o, none⟩) hq
  simp only [hk]
  exact ⟨⟨hc 0 _ rfl, hc 1 _ rfl, hc 2 _ rfl, hc 3 _ rfl, hc 4 _ rfl, hc 5 _ rfl⟩, hc 6 _ rfl, hc 7 _ rfl, hc 8 _ rfl, hc 9 _ rfl, hc 10 _ rfl, hc 11 _ rfl⟩
end Go.Proofs.YtbefmlioampgcaaGreatDoor

/- AND and OR, emitted: decide, walked. -/
namespace Go.Proofs.YtbefmlioampgcaaGreatDoor
open Go.RowKit
set_option linter.unusedVariables false
set_option linter.unusedSimpArgs false

theorem ret_of {g : EmL} {bm base : Nat} {w W0 : World} {ls ls' : List LineL} {made made' : Nat} (hls : ls = ls') (hm : made = made') (hk : EmK bm base w W0) {W : World} (h : EmS g bm base W0 ls made [] W) : Em g bm base ls' made' [] W ∧ EmK bm base w W := by
  subst hls hm
  exact ⟨h.1, hk.trans h.2⟩
set_option maxRecDepth 100000 in
set_option maxHeartbeats 4000000 in
theorem gDecide (g : EmL) (bm base B : Nat) (e a b : KE) (hle : e.l = [a, b]) (ho : e.oper = 20 ∨ e.oper = 21) (hca : CodeOk g bm base B a) (hcb : CodeOk g bm base B b)
    (t : Int) (ls : List LineL) (made : Nat) (w : World) (h0 : 0 ≤ t) (h1 : t + nodesE e ≤ 1000000) (h2 : ls.length + 8 * nodesE e ≤ 900000) (h3 : made + nodesE e ≤ 900000) (hi : e.In w B) (hL : LaidG B w) (hn : EnvIn g w B) (hB : B ≤ base)
    (h : Em g bm base ls made [] w) : Calls Tryz.prog 41 #[.pointer (some ⟨bm, 0, none⟩), .agg e.cells, .int .i32 t] w (RetEm g bm base (ls ++ (codeE g.env e t made).1) (codeE g.env e t made).2 [] w) := by
  obtain ⟨W0, hW0⟩ : ∃ W, w.alloc (.cells e.cells 27) = W := ⟨_, rfl⟩
  have K0 : Below w.heap.size w W0 := by rw [← hW0]; exact (Below.refl _ _).alloc (Nat.le_refl _) _
  have b0 : Blk W0 w.heap.size 27 e.cells := by rw [← hW0]; exact Blk.new _ _ _
  have hbs := h.base_le
  have hBw : B ≤ w.heap.size := Nat.le_trans hB hbs
  have hKE : EmK bm base w W0 := EmK.of_below K0 hbs
  have hE : Hid (EmS g bm base W0 ls made [] W0) := Lib.hid ⟨h.below K0, EmK.refl _ _ _⟩
  have hnb : ¬ w.heap.size = bm := by have := h.lt; omega
  have ma : a ∈ e.l := by rw [hle]; simp
  have mb : b ∈ e.l := by rw [hle]; simp
  have hi0 := hi.below (K0.mono hBw)
  have hL0 := hL.on (K0.mono hBw)
  have hn0 := hn.below (K0.mono hBw)
  have hnd := nodesE_2 hle
  have hpar := hi0.parts
  rw [hle] at hpar
  obtain ⟨q, off, hA, hqB, hcell⟩ := two_at hpar
  have hcode := codeE_2 g.env hle t made
  rw [if_pos ho] at hcode
  obtain ⟨ca, hcae⟩ : ∃ x, codeE g.env a t made = x := ⟨_, rfl⟩
  obtain ⟨cb, hcbe⟩ : ∃ x, codeE g.env b t (ca.2 + 1) = x := ⟨_, rfl⟩
  have la := code_len g.env a t made
  have lb := code_len g.env b t (ca.2 + 1)
  rw [hcae] at hcode la
  simp only [hcbe] at hcode
  rw [hcbe] at lb
  obtain ⟨EL, hEL⟩ : ∃ x, freshL g.env (ca.2 + 1) = x := ⟨_, rfl⟩
  rw [hEL] at hcode
  have hgl := hn.2.2.2
  have hX : Hid (Blk W0 w.heap.size 27 e.cells) := Lib.hid b0
  have C1 : Hid (∀ W, EmS g bm base W0 ls made [] W → Calls Tryz.prog 22 #[.pointer (some ⟨bm, 0, none⟩), .agg a.cells, .int .i32 t] W (RetSt g bm base W0 (ls ++ ca.1) ca.2 [] (.tuple #[]))) := Lib.hid fun W hs => by
    have := codeS hca h0 (t := t) (by omega) (by omega) (by omega) (hi0.part ma) hL0 hn0 hB hs
    rwa [hcae] at this
  have C2 : Hid (∀ W, EmS g bm base W0 (ls ++ ca.1) ca.2 [] W → Calls Tryz.prog 62 #[.pointer (some ⟨bm, 0, none⟩)] W (RetSt g bm base W0 (ls ++ ca.1) (ca.2 + 1) [] (.string (strB EL)))) := Lib.hid fun W hs => by
    have := freshS (g := g) (bm := bm) (by omega) hgl (hL0.on (hs.bel.mono hB)) hB hs
    rwa [hEL] at this
  simp only [KE.cells] at C1 b0 hW0 hX ⊢
  rw [hA, hle] at b0 hW0 hX ⊢
  simp only [List.length_cons, List.length_nil, Nat.zero_add] at b0 hW0 hX ⊢
  obtain ⟨O, hO⟩ : ∃ K : Int, (e.oper : Int) = K := ⟨_, rfl⟩
  rw [hO] at b0 hW0 hX ⊢
  have x0 := b0.cell 0
  have x1 := b0.cell 1
  have x2 := b0.cell 2
  have x3 := b0.cell 3
  have x4 := b0.cell 4
  have x5 := b0.cell 5
  simp at x0 x1 x2 x3 x4 x5
  have HOO := Lib.hid hO
  have HC := Lib.hid hcode
  have HKE := Lib.hid hKE
  have HCL := Lib.hid hcell
  obtain ⟨⟨p0, p1, p2, p3, p4, p5⟩, -⟩ := hcell W0 (Below.refl _ _)
  have hq0 : q < W0.heap.size := by have := K0.size; omega
  have hlt := b0.lt
  rcases ho with ho | ho
  · obtain rfl : O = 20 := by omega
    rw [if_neg (by omega)] at hcode
    have HC2 := Lib.hid hcode
    have hl1 : (ls ++ ca.1).length ≤ 900000 := by simp only [List.length_append]; omega
    generalize hL1 : ls ++ ca.1 = L1 at *
    have C4 : Hid (∀ W, EmS g bm base W0 L1 (ca.2 + 1) [] W → Calls Tryz.prog 63 #[.pointer (some ⟨bm, 0, none⟩), .string (strB EL)] W (RetSt g bm base W0 (L1 ++ [lnJ EL]) (ca.2 + 1) [] (.tuple #[]))) := Lib.hid fun W hs => jumpS (by omega) hs
    have hl3 : (L1 ++ [lnJ EL]).length + 8 * nodesE b ≤ 900000 := by rw [← hL1]; simp only [List.length_append, List.length_cons, List.length_nil]; omega
    generalize hL3 : L1 ++ [lnJ EL] = L3 at *
    have C5 : Hid (∀ W, EmS g bm base W0 L3 (ca.2 + 1) [] W → Calls Tryz.prog 22 #[.pointer (some ⟨bm, 0, none⟩), .agg b.cells, .int .i32 t] W (RetSt g bm base W0 (L3 ++ cb.1) cb.2 [] (.tuple #[]))) := Lib.hid fun W hs => by
      have := codeS hcb h0 (t := t) (made := ca.2 + 1) (by omega) hl3 (by omega) (hi0.part mb) hL0 hn0 hB hs
      rwa [hcbe] at this
    have hl4 : (L3 ++ cb.1).length ≤ 900000 := by simp only [List.length_append]; omega
    generalize hL4 : L3 ++ cb.1 = L4 at *
    have C7 : Hid (∀ W, EmS g bm base W0 L4 cb.2 EL W → Calls Tryz.prog 40 #[.pointer (some ⟨bm, 0, none⟩), .int .u8 8, .int .i32 0] W (RetSt g bm base W0 (L4 ++ [⟨EL, 8, 0, [], []⟩]) cb.2 [] (.tuple #[]))) := Lib.hid fun W hs => putS (by decide) (by omega) hs
    simp only [KE.cells] at C5
    have HW : Hid (∀ W, EmS g bm base W0 L4 cb.2 [] W → EmS g bm base W0 L4 cb.2 EL (W.setCell ⟨bm, 10, none⟩ (.string (strB EL)))) := Lib.hid fun W hs => hs.wait
    have HEQ : Hid (L4 ++ [⟨EL, 8, 0, [], []⟩] = ls ++ (codeE g.env e t made).1 ∧ cb.2 = (codeE g.env e t made).2) := Lib.hid ⟨by
      rw [hcode, ← hL4, ← hL3, ← hL1]
      simp only [List.append_assoc, List.cons_append, List.nil_append], by rw [hcode]⟩
    generalize codeE g.env e t made = CE at *
    generalize strB EL = SE at *
    clear hL1 hL3 hL4 hcode HC hle hA hcell hpar hi0 hL0 hn0 hi hL hn h hca hcb b0 K0 hO hcae hcbe hEL la lb hl1 hl3 hl4 ho ma mb hKE x0 x2 x3 x4 h0 h1 h2 h3 hnd hgl
    go_enter Tryz.func41, Tryz.ntmps41
    go_wp2_with first
      | (go_at_call 22; (with_reducible refine (C1.out _ hE.out).mono ?_); rintro e5 W5 ⟨rfl, h5⟩
         replace hE := Lib.hid h5
         clear h5)
      | (go_at_call 62; (with_reducible refine (C2.out _ hE.out).mono ?_); rintro e5 W5 ⟨rfl, h5⟩
         replace hE := Lib.hid h5
         clear h5)
      | (go_at_call 63; (with_reducible refine (C4.out _ hE.out).mono ?_); rintro e5 W5 ⟨rfl, h5⟩
         have x5 := (h5.2.2 _ _ _ hX.out (by decide) hnb).cell 5
         simp at x5
         obtain ⟨-, y0, y1, y2, y3, y4, y5⟩ := HCL.out W5 (h5.bel.mono hB)
         replace hE := Lib.hid h5
         clear h5)
      | (go_at_call 22; (with_reducible refine (C5.out _ hE.out).mono ?_); rintro e5 W5 ⟨rfl, h5⟩
         obtain ⟨z1, z2, z3⟩ := h5.at10
         replace hE := Lib.hid h5
         clear h5)
      | (go_at_call 40; (with_reducible refine (C7.out _ (HW.out _ hE.out)).mono ?_); rintro e5 W5 ⟨rfl, h5⟩
         replace hE := Lib.hid h5
         clear h5)
    go_end0
    exact ⟨rfl, ret_of HEQ.out.1 HEQ.out.2 HKE.out hE.out⟩
  · obtain rfl : O = 21 := by omega
    rw [if_pos ho] at hcode
    have HC2 := Lib.hid hcode
    have hl1 : (ls ++ ca.1).length ≤ 900000 := by simp only [List.length_append]; omega
    generalize hL1 : ls ++ ca.1 = L1 at *
    have C3 : Hid (∀ W, EmS g bm base W0 L1 (ca.2 + 1) [] W → Calls Tryz.prog 40 #[.pointer (some ⟨bm, 0, none⟩), .int .u8 12, .int .i32 0] W (RetSt g bm base W0 (L1 ++ [lnF 12 0]) (ca.2 + 1) [] (.tuple #[]))) := Lib.hid fun W hs => putS (by decide) (by omega) hs
    have C4 : Hid (∀ W, EmS g bm base W0 (L1 ++ [lnF 12 0]) (ca.2 + 1) [] W → Calls Tryz.prog 63 #[.pointer (some ⟨bm, 0, none⟩), .string (strB EL)] W (RetSt g bm base W0 (L1 ++ [lnF 12 0] ++ [lnJ EL]) (ca.2 + 1) [] (.tuple #[]))) := Lib.hid fun W hs => jumpS (by simp; omega) hs
    have hl3 : (L1 ++ [lnF 12 0] ++ [lnJ EL]).length + 8 * nodesE b ≤ 900000 := by rw [← hL1]; simp only [List.length_append, List.length_cons, List.length_nil]; omega
    generalize hL3 : L1 ++ [lnF 12 0] ++ [lnJ EL] = L3 at *
    have C5 : Hid (∀ W, EmS g bm base W0 L3 (ca.2 + 1) [] W → Calls Tryz.prog 22 #[.pointer (some ⟨bm, 0, none⟩), .agg b.cells, .int .i32 t] W (RetSt g bm base W0 (L3 ++ cb.1) cb.2 [] (.tuple #[]))) := Lib.hid fun W hs => by
      have := codeS hcb h0 (t := t) (made := ca.2 + 1) (by omega) hl3 (by omega) (hi0.part mb) hL0 hn0 hB hs
      rwa [hcbe] at this
    have hl4 : (L3 ++ cb.1).length ≤ 900000 := by simp only [List.length_append]; omega
    generalize hL4 : L3 ++ cb.1 = L4 at *
    have C6 : Hid (∀ W, EmS g bm base W0 L4 cb.2 [] W → Calls Tryz.prog 40 #[.pointer (some ⟨bm, 0, none⟩), .int .u8 12, .int .i32 0] W (RetSt g bm base W0 (L4 ++ [lnF 12 0]) cb.2 [] (.tuple #[]))) := Lib.hid fun W hs => putS (by decide) (by omega) hs
    have C7 : Hid (∀ W, EmS g bm base W0 (L4 ++ [lnF 12 0]) cb.2 EL W → Calls Tryz.prog 40 #[.pointer (some ⟨bm, 0, none⟩), .int .u8 12, .int .i32 0] W (RetSt g bm base W0 (L4 ++ [lnF 12 0] ++ [⟨EL, 12, 0, [], []⟩]) cb.2 [] (.tuple #[]))) := Lib.hid fun W hs => putS (by decide) (by simp; omega) hs
    simp only [KE.cells] at C5
    have HW : Hid (∀ W, EmS g bm base W0 (L4 ++ [lnF 12 0]) cb.2 [] W → EmS g bm base W0 (L4 ++ [lnF 12 0]) cb.2 EL (W.setCell ⟨bm, 10, none⟩ (.string (strB EL)))) := Lib.hid fun W hs => hs.wait
    have HEQ : Hid (L4 ++ [lnF 12 0] ++ [⟨EL, 12, 0, [], []⟩] = ls ++ (codeE g.env e t made).1 ∧ cb.2 = (codeE g.env e t made).2) := Lib.hid ⟨by
      rw [hcode, ← hL4, ← hL3, ← hL1]
      simp only [List.append_assoc, List.cons_append, List.nil_append], by rw [hcode]⟩
    generalize codeE g.env e t made = CE at *
    generalize strB EL = SE at *
    clear hL1 hL3 hL4 hcode HC hle hA hcell hpar hi0 hL0 hn0 hi hL hn h hca hcb b0 K0 hO hcae hcbe hEL la lb hl1 hl3 hl4 ho ma mb hKE x0 x2 x3 x4 h0 h1 h2 h3 hnd hgl
    go_enter Tryz.func41, Tryz.ntmps41
    go_wp2_with first
      | (go_at_call 22; (with_reducible refine (C1.out _ hE.out).mono ?_); rintro e5 W5 ⟨rfl, h5⟩
         replace hE := Lib.hid h5
         clear h5)
      | (go_at_call 62; (with_reducible refine (C2.out _ hE.out).mono ?_); rintro e5 W5 ⟨rfl, h5⟩
         replace hE := Lib.hid h5
         clear h5)
      | (go_at_call 40; (with_reducible refine (C3.out _ hE.out).mono ?_); rintro e5 W5 ⟨rfl, h5⟩
         replace hE := Lib.hid h5
         clear h5)
      | (go_at_call 63; (with_reducible refine (C4.out _ hE.out).mono ?_); rintro e5 W5 ⟨rfl, h5⟩
         have x5 := (h5.2.2 _ _ _ hX.out (by decide) hnb).cell 5
         simp at x5
         obtain ⟨-, y0, y1, y2, y3, y4, y5⟩ := HCL.out W5 (h5.bel.mono hB)
         replace hE := Lib.hid h5
         clear h5)
      | (go_at_call 22; (with_reducible refine (C5.out _ hE.out).mono ?_); rintro e5 W5 ⟨rfl, h5⟩
         replace hE := Lib.hid h5
         clear h5)
      | (go_at_call 40; (with_reducible refine (C6.out _ hE.out).mono ?_); rintro e5 W5 ⟨rfl, h5⟩
         obtain ⟨z1, z2, z3⟩ := h5.at10
         replace hE := Lib.hid h5
         clear h5)
      | (go_at_call 40; (with_reducible refine (C7.out _ (HW.out _ hE.out)).mono ?_); rintro e5 W5 ⟨rfl, h5⟩
         replace hE := Lib.hid h5
         clear h5)
    go_end0
    exact ⟨rfl, ret_of HEQ.out.1 HEQ.out.2 HKE.out hE.out⟩
end Go.Proofs.YtbefmlioampgcaaGreatDoor
