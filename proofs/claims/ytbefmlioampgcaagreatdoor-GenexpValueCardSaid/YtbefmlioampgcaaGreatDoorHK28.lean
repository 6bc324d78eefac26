/- Texts that belong together, joined: what each one holds is told ahead of it. -/
import Derived.Test.YtbefmlioampgcaaGreatDoorHK27
set_option linter.unusedVariables false
set_option linter.unusedSimpArgs false
/- The document's Valid, walked. -/
namespace Go.Proofs.YtbefmlioampgcaaGreatDoor
open Go.RowKit
set_option linter.unusedVariables false
set_option linter.unusedSimpArgs false

set_option maxRecDepth 100000 in
set_option maxHeartbeats 8000000 in
theorem rValid25 (g : EmL) (e : KE) (temp : Int) (B : Nat) (w : World) (hi : e.In w B) (hn : VarsIn g w B) (hlb : g.label.length ≤ 281474976710656) (hti : i64ok temp) (hB : B ≤ w.heap.size) :
    Calls Tryz.prog 11 #[.agg e.cells, .slice g.Av g.vars.length g.cv, .int .i64 temp, .string (strB g.label)] w (RetV (.bool (validC g e temp)) w) := by
  obtain ⟨W0, hW0⟩ : ∃ W, w.alloc (.cells e.cells 27) = W := ⟨_, rfl⟩
  have K0 : Below w.heap.size w W0 := by rw [← hW0]; exact (Below.refl _ _).alloc (Nat.le_refl _) _
  have b0 : Blk W0 w.heap.size 27 e.cells := by rw [← hW0]; exact Blk.new _ _ _
  have hi0 := hi.below (K0.mono hB)
  have hn0 := hn.below (K0.mono hB)
  have HN := Lib.hid hn0
  have hBW : B ≤ W0.heap.size := Nat.le_trans hB K0.size
  have HM := Lib.hid (rMay e B W0 hi0 hBW)
  have HL : Hid (∀ W, Calls Tryz.prog 30 #[.string (strB g.label)] W (RetV (.bool (labelB g.label)) W)) := Lib.hid fun W => rLab g.label hlb W
  have HD : Hid (validE e = true → ∀ W, Below B W0 W → B ≤ W.heap.size → Calls Tryz.prog 31 #[.agg e.cells, .slice g.Av g.vars.length g.cv] W (RetV (.bool (allE (dimsB g) e)) W)) := Lib.hid fun hv W hb hs =>
    rDims g e (validE_all hv) B W (hi0.below hb) (hn0.below hb) hs
  have hz : validC g e temp = (validE e && decide (g.vars.length ≤ 256 ∧ 0 ≤ temp ∧ temp ≤ 65535) && labelB g.label && decide (g.label.length ≤ 24) && g.vars.all dimB && allE (dimsB g) e) := rfl
  have hvl : lenOk g.vars := hn.1
  unfold lenOk at hvl
  have hsl := strB_size g.label
  have HK0 := Lib.hid K0
  have HBW := Lib.hid hBW
  have HB0 := Lib.hid b0
  simp only [KE.cells] at b0 hW0 HB0 HM HD ⊢
  have c0 := b0.cell 0
  have c1 := b0.cell 1
  have c2 := b0.cell 2
  have c3 := b0.cell 3
  have c4 := b0.cell 4
  have c5 := b0.cell 5
  simp at c0 c1 c2 c3 c4 c5
  have hlt := b0.lt
  generalize validC g e temp = R at *
  have HZ := Lib.hid hz
  generalize validE e = V at *
  generalize labelB g.label = LB at *
  generalize allE (dimsB g) e = DM at *
  generalize strB g.label = SL at *
  obtain ⟨nl, hnl⟩ : ∃ n, g.label.length = n := ⟨_, rfl⟩
  rw [hnl] at HZ hsl hlb
  obtain ⟨nv, hnv⟩ : ∃ n, g.vars.length = n := ⟨_, rfl⟩
  have HNV := Lib.hid hnv
  rw [hnv] at HZ HD hvl ⊢
  generalize g.cv = CV at *
  unfold i64ok at hti
  clear hi hn hB b0 hi0 hn0 K0 hBW hz hnl hnv
  cases V with
  | false =>
    obtain rfl : R = false := by rw [HZ.out]; simp
    clear HZ HD HL
    go_enter Tryz.func11, Tryz.ntmps11
    go_wp2_with first
      | (go_at_call 29; (with_reducible refine HM.out.mono ?_); rintro e1 w1 ⟨rfl, hb1⟩)
    go_ret
    exact ⟨rfl, HK0.out.trans (hb1.mono HK0.out.size)⟩
  | true =>
    by_cases q1 : 256 < (nv : Int)
    · obtain rfl : R = false := by
        rw [HZ.out]
        have : decide (nv ≤ 256 ∧ 0 ≤ temp ∧ temp ≤ 65535) = false := decide_eq_false (by omega)
        simp [this]
      clear HZ HD HL
      go_enter Tryz.func11, Tryz.ntmps11
      go_wp2_with first
        | (go_at_call 29; (with_reducible refine HM.out.mono ?_); rintro e1 w1 ⟨rfl, hb1⟩)
      go_ret
      exact ⟨rfl, HK0.out.trans (hb1.mono HK0.out.size)⟩
    by_cases q2 : temp < 0
    · obtain rfl : R = false := by
        rw [HZ.out]
        have : decide (nv ≤ 256 ∧ 0 ≤ temp ∧ temp ≤ 65535) = false := decide_eq_false (by omega)
        simp [this]
      clear HZ HD HL
      go_enter Tryz.func11, Tryz.ntmps11
      go_wp2_with first
        | (go_at_call 29; (with_reducible refine HM.out.mono ?_); rintro e1 w1 ⟨rfl, hb1⟩)
      go_ret
      exact ⟨rfl, HK0.out.trans (hb1.mono HK0.out.size)⟩
    by_cases q3 : 65535 < temp
    · obtain rfl : R = false := by
        rw [HZ.out]
        have : decide (nv ≤ 256 ∧ 0 ≤ temp ∧ temp ≤ 65535) = false := decide_eq_false (by omega)
        simp [this]
      clear HZ HD HL
      go_enter Tryz.func11, Tryz.ntmps11
      go_wp2_with first
        | (go_at_call 29; (with_reducible refine HM.out.mono ?_); rintro e1 w1 ⟨rfl, hb1⟩)
      go_ret
      exact ⟨rfl, HK0.out.trans (hb1.mono HK0.out.size)⟩
    have HZ2 : Hid (R = (LB && decide (nl ≤ 24) && g.vars.all dimB && DM)) := Lib.hid (by
      rw [HZ.out]
      have : decide (nv ≤ 256 ∧ 0 ≤ temp ∧ temp ≤ 65535) = true := decide_eq_true (by omega)
      simp [this])
    clear HZ
    cases LB with
    | false =>
      obtain rfl : R = false := by rw [HZ2.out]; simp
      clear HZ2 HD
      go_enter Tryz.func11, Tryz.ntmps11
      go_wp2_with first
        | (go_at_call 29; (with_reducible refine HM.out.mono ?_); rintro e1 w1 ⟨rfl, hb1⟩
           have K1 := Lib.hid (HK0.out.trans (hb1.mono HK0.out.size))
           clear hb1)
        | (go_at_call 30; (with_reducible refine (HL.out _).mono ?_); rintro e2 w2 ⟨rfl, hb2⟩)
      go_ret
      exact ⟨rfl, K1.out.trans (hb2.mono K1.out.size)⟩
    | true =>
      by_cases q4 : 24 < (SL.size : Int)
      · obtain rfl : R = false := by
          rw [HZ2.out]
          have : decide (nl ≤ 24) = false := decide_eq_false (by omega)
          simp [this]
        clear HZ2 HD
        go_enter Tryz.func11, Tryz.ntmps11
        go_wp2_with first
          | (go_at_call 29; (with_reducible refine HM.out.mono ?_); rintro e1 w1 ⟨rfl, hb1⟩
             have K1 := Lib.hid (HK0.out.trans (hb1.mono HK0.out.size))
             clear hb1)
          | (go_at_call 30; (with_reducible refine (HL.out _).mono ?_); rintro e2 w2 ⟨rfl, hb2⟩)
        go_ret
        exact ⟨rfl, K1.out.trans (hb2.mono K1.out.size)⟩
      have HZ3 : Hid (R = (g.vars.all dimB && DM)) := Lib.hid (by
        rw [HZ2.out]
        have : decide (nl ≤ 24) = true := decide_eq_true (by omega)
        simp [this])
      clear HZ2
      go_enter Tryz.func11, Tryz.ntmps11
      go_wp2_with first
        | (go_at_call 29; (with_reducible refine HM.out.mono ?_); rintro e1 w1 ⟨rfl, hb1⟩
           have K1 := Lib.hid hb1
           clear hb1)
        | (go_at_call 30; (with_reducible refine (HL.out _).mono ?_); rintro e2 w2 ⟨rfl, hb2⟩
           have K2 := Lib.hid (K1.out.trans (hb2.mono K1.out.size))
           clear hb2)
      go_loopw [9] (fun i wr => ∃ k : Nat, k ≤ nv ∧ i = .int .i64 k ∧ Hid ((g.vars.take k).all dimB = true) ∧ Hid (Below W0.heap.size W0 wr)) (fun i _ => nv - (intOf i).toNat)
      case atStart => exact ⟨0, Nat.zero_le _, rfl, Lib.hid (by rw [List.take_zero]; rfl), K2⟩
      case round =>
        clear K1 K2
        obtain ⟨k, hk, rfl, HT, HBR⟩ := hrel
        have hwr := HBR.out.size
        have hbW : Below B W0 wr := HBR.out.mono HBW.out
        by_cases hltk : k < nv
        · have hltI : (k : Int) < nv := by omega
          obtain ⟨bv, ov, x, hA, hbv, hx, hdo, -, -, v1⟩ := var_at0 (HN.out.below hbW) (k := k) (by rw [HNV.out]; exact hltk)
          have zb : bv < wr.heap.size := by have := HBW.out; omega
          have HX := Lib.hid hx
          have hdb : dimB x = decide (0 ≤ x.dim ∧ x.dim ≤ 64) := rfl
          have HDB := Lib.hid hdb
          generalize x.dim = D at *
          unfold i64ok at hdo
          rw [hA]
          clear hA hx hdb
          by_cases d1 : D < 0
          · have HRN : Hid (R = false) := Lib.hid (by
              have h1 : dimB x = false := by rw [HDB.out]; exact decide_eq_false (by omega)
              have h2 : g.vars.all dimB = false := by
                rw [List.all_eq_false]
                exact ⟨x, List.mem_of_getElem? HX.out, by rw [h1]; decide⟩
              rw [HZ3.out, h2, Bool.false_and])
            go_wp2
            go_ret
            exact ⟨by rw [HRN.out]; rfl, HK0.out.trans (HBR.out.mono HK0.out.size)⟩
          by_cases d2 : 64 < D
          · have HRN : Hid (R = false) := Lib.hid (by
              have h1 : dimB x = false := by rw [HDB.out]; exact decide_eq_false (by omega)
              have h2 : g.vars.all dimB = false := by
                rw [List.all_eq_false]
                exact ⟨x, List.mem_of_getElem? HX.out, by rw [h1]; decide⟩
              rw [HZ3.out, h2, Bool.false_and])
            go_wp2
            go_ret
            exact ⟨by rw [HRN.out]; rfl, HK0.out.trans (HBR.out.mono HK0.out.size)⟩
          have HOK : Hid (dimB x = true) := Lib.hid (by rw [HDB.out]; exact decide_eq_true (by omega))
          go_wp2
          go_roundw
          case rel => exact ⟨k + 1, by omega, by go_num, Lib.hid (by rw [List.take_add_one, HX.out]; simp only [Option.toList_some, List.all_append, List.all_cons, List.all_nil, Bool.and_true, Bool.and_eq_true]; exact ⟨HT.out, HOK.out⟩), HBR⟩
          case measure => simp [intOf]; omega
        · have hltI : ¬ (k : Int) < nv := by omega
          have HR2 : Hid (R = DM) := Lib.hid (by
            have h1 : g.vars.all dimB = true := by
              rw [← HT.out, List.take_of_length_le]
              rw [HNV.out]; omega
            rw [HZ3.out, h1, Bool.true_and])
          have bq := (HB0.out).below HBR.out hlt
          have q0 := bq.cell 0
          have q1 := bq.cell 1
          have q2 := bq.cell 2
          have q3 := bq.cell 3
          have q4 := bq.cell 4
          have q5 := bq.cell 5
          simp at q0 q1 q2 q3 q4 q5
          have HC := Lib.hid (HD.out (by first | trivial | rfl) wr hbW (by have := HBW.out; omega))
          clear bq
          go_wp2_with first
            | (go_at_call 31; (with_reducible refine HC.out.mono ?_); rintro e3 w3 ⟨rfl, hb3⟩)
          go_ret
          exact ⟨by rw [HR2.out]; rfl, HK0.out.trans ((HBR.out.trans (hb3.mono hwr)).mono HK0.out.size)⟩
end Go.Proofs.YtbefmlioampgcaaGreatDoor

/- The document's Offset and Offsets, walked. -/
namespace Go.Proofs.YtbefmlioampgcaaGreatDoor
open Go.RowKit
set_option linter.unusedVariables false
set_option linter.unusedSimpArgs false

theorem tempsV_le (e : KE) : tempsV e ≤ 256 := by
  unfold tempsV
  by_cases h : validE e = true
  · rw [if_pos h]
    have := tempsE_room e (validE_all h)
    have := valid_nodes h
    omega
  · rw [if_neg h]; omega
set_option maxRecDepth 100000 in
set_option maxHeartbeats 4000000 in
theorem rOffset25 (s : SpL) (frame v : Int) (B : Nat) (w : World) (hi : s.In w B) (hB : B ≤ w.heap.size) (hf : i64ok frame) (hv : i64ok v) :
    Calls Tryz.prog 35 #[.agg s.cells, .int .i64 frame, .int .i64 v] w (RetV (spotV (varL s frame v)) w) := by
  obtain ⟨W0, hW0⟩ : ∃ W, w.alloc (.cells s.cells 32) = W := ⟨_, rfl⟩
  have K0 : Hid (Below w.heap.size w W0) := Lib.hid (by rw [← hW0]; exact (Below.refl _ _).alloc (Nat.le_refl _) _)
  have b0 : Blk W0 w.heap.size 32 s.cells := by rw [← hW0]; exact Blk.new _ _ _
  have hi0 := hi.below (K0.out.mono hB)
  have HC := Lib.hid (rVar24 s frame v B W0 hi0 (Nat.le_trans hB K0.out.size) hf hv)
  generalize varL s frame v = R at *
  simp only [SpL.cells] at b0 hW0 HC ⊢
  unfold spotV at HC ⊢
  have c0 := b0.cell 0
  have c1 := b0.cell 1
  have c2 := b0.cell 2
  have c3 := b0.cell 3
  have c4 := b0.cell 4
  simp at c0 c1 c2 c3 c4
  have hwl := b0.lt
  clear b0 hi hB hf hv hi0
  go_enter Tryz.func35, Tryz.ntmps35
  go_wp2_with first
    | (go_at_call 32; (with_reducible refine HC.out.mono ?_); rintro e w1 ⟨rfl, hb1⟩)
  go_ret2
  exact ⟨rfl, K0.out.trans (hb1.mono K0.out.size)⟩
/-- What Offsets finds of the part itself. -/
theorem offs_cases (g : EmL) (t : Int) (e : KE) (hf : fieldsB e = true) (hd : dimsB g e = true) {w : World} {B : Nat} (hv : VarsIn g w B) (hdm : ∀ x ∈ g.vars, 0 ≤ x.dim ∧ x.dim ≤ 64) :
    (((e.kind == 2) = false ∧ (e.kind == 3) = false) ∧ offs0 g t e = some (t + tempsV e)) ∨
    ((e.kind = 2 ∨ e.kind = 3) ∧ ((varL g.s g.frame e.v = none ∧ offs0 g t e = none) ∨ (∃ a, varL g.s g.frame e.v = some a ∧ a < 0 ∧ offs0 g t e = none) ∨ (∃ a, varL g.s g.frame e.v = some a ∧ ¬ a < 0 ∧ 65536 < a ∧ offs0 g t e = none) ∨
      (∃ a D b off k, varL g.s g.frame e.v = some a ∧ ¬ a < 0 ∧ ¬ 65536 < a ∧ 0 ≤ D ∧ D ≤ 64 ∧ e.v = (k : Nat) ∧ k < g.vars.length ∧ g.Av = some ⟨b, off, none⟩ ∧ b < B ∧ w.cell? ⟨b, off + k * 2 + 1, none⟩ = some (.int .i64 D) ∧ offs0 g t e = some (max (t + tempsV e) (a + max 1 D))))) := by
  by_cases hk : e.kind = 2 ∨ e.kind = 3
  · refine .inr ⟨hk, ?_⟩
    have hvr := fields_v hf hk
    obtain ⟨k, hvk⟩ : ∃ n : Nat, e.v = n := ⟨e.v.toNat, by omega⟩
    have hlt : k < g.vars.length := by
      unfold dimsB at hd
      rcases hk with hk | hk
      · rw [if_pos hk] at hd; have := (of_decide_eq_true hd).1; omega
      · rw [if_neg (by omega), if_pos hk] at hd; have := (of_decide_eq_true hd).1; omega
    obtain ⟨b, off, x, hA, hb, hx, -, -, -, hc⟩ := var_at0 hv hlt
    have hgd : (g.vars.getD e.v.toNat ⟨0, 0⟩).dim = x.dim := by rw [hvk, Int.toNat_natCast, List.getD_eq_getElem?_getD, hx]; rfl
    have hdx := hdm x (List.mem_of_getElem? hx)
    have ho : offs0 g t e = match varL g.s g.frame e.v with
      | none => none
      | some a => if a < 0 ∨ 65536 < a then none else some (max (t + tempsV e) (a + max 1 x.dim)) := by
      rw [← hgd]
      unfold offs0
      rw [if_pos hk]
      rfl
    cases hs : varL g.s g.frame e.v with
    | none => rw [hs] at ho; exact .inl ⟨rfl, ho⟩
    | some a =>
      rw [hs] at ho
      simp only at ho
      by_cases h1 : a < 0
      · rw [if_pos (.inl h1)] at ho; exact .inr (.inl ⟨a, rfl, h1, ho⟩)
      · by_cases h2 : 65536 < a
        · rw [if_pos (.inr h2)] at ho; exact .inr (.inr (.inl ⟨a, rfl, h1, h2, ho⟩))
        · rw [if_neg (by omega)] at ho
          exact .inr (.inr (.inr ⟨a, x.dim, b, off, k, rfl, h1, h2, hdx.1, hdx.2, hvk, hlt, hA, hb, hc, ho⟩))
  · refine .inl ⟨⟨by simp; omega, by simp; omega⟩, ?_⟩
    unfold offs0
    rw [if_neg hk]
def offsV (o : Option Int) : Value := .tuple #[.int .i64 (o.getD 0), .bool o.isSome]
set_option maxRecDepth 100000 in
set_option maxHeartbeats 8000000 in
theorem rOffsets25 (g : EmL) (temp : Int) (ht : 0 ≤ temp ∧ temp ≤ 65535) (hf64 : i64ok g.frame) (hdm : ∀ x ∈ g.vars, 0 ≤ x.dim ∧ x.dim ≤ 64) (e : KE) : e.all (fun x => fieldsB x = true) → allE (dimsB g) e = true → ∀ (B : Nat) (w : World), e.In w B → g.s.In w B → VarsIn g w B → B ≤ w.heap.size →
    Calls Tryz.prog 14 #[.agg e.cells, .slice g.Av g.vars.length g.cv, .agg g.s.cells, .int .i64 g.frame, .int .i64 temp] w (RetV (offsV (offsE g temp e)) w) := by
  induction e using KE.ind with
  | h e ih =>
    intro hall hdims B w hi hn hvi hB
    obtain ⟨hfe, hfl⟩ := KE.all_iff.1 hall
    rw [allE_eq, Bool.and_eq_true, allL_iff] at hdims
    obtain ⟨W0, hW0⟩ : ∃ W, (w.alloc (.cells e.cells 27)).alloc (.cells g.s.cells 32) = W := ⟨_, rfl⟩
    have K0 : Below w.heap.size w W0 := by rw [← hW0]; exact below_2 w _ _
    have b0 : Blk W0 w.heap.size 27 e.cells := by rw [← hW0]; exact (Blk.new w _ _).alloc _
    have b1 : Blk W0 (w.heap.size + 1) 32 g.s.cells := by rw [← hW0]; exact blk_2 w _ _ _
    have hi0 := hi.below (K0.mono hB)
    have hn0 := hn.below (K0.mono hB)
    have hv0 := hvi.below (K0.mono hB)
    have hBW : B ≤ W0.heap.size := Nat.le_trans hB K0.size
    have hRE := offsE_eq g temp e
    obtain ⟨R, hR⟩ : ∃ R, offsE g temp e = R := ⟨_, rfl⟩
    rw [hR] at hRE ⊢
    have HI := Lib.hid hi0
    have HIH : Hid (∀ x ∈ e.l, ∀ W, Below B W0 W → B ≤ W.heap.size → Calls Tryz.prog 14 #[.agg x.cells, .slice g.Av g.vars.length g.cv, .agg g.s.cells, .int .i64 g.frame, .int .i64 temp] W (RetV (offsV (offsE g temp x)) W)) := Lib.hid fun x hx W hb hs =>
      ih x hx (hfl x hx) (hdims.2 x hx) B W ((hi0.part hx).below hb) (hn0.below hb) (hv0.below hb) hs
    have HV : Hid (∀ W, Below B W0 W → B ≤ W.heap.size → Calls Tryz.prog 32 #[.agg g.s.cells, .int .i64 g.frame, .int .i64 e.v] W (RetV (spotV (varL g.s g.frame e.v)) W)) := Lib.hid fun W hb hs =>
      rVar24 g.s g.frame e.v B W (hn0.below hb) hs hf64 hi.one.1.2.2.2.2.1
    have HTM : Hid (Calls Tryz.prog 15 #[.agg e.cells] W0 (RetV (.int .i64 (tempsV e)) W0)) := Lib.hid (rTemps22 e B W0 hi0 hBW)
    have hcase := offs_cases g temp e hfe hdims.1 hv0 hdm
    have htv := tempsV_le e
    have hlen : lenOk e.l := hi.one.1.2.2.2.2.2
    have hvl : lenOk g.vars := hvi.1
    unfold lenOk at hlen hvl
    have HK0 := Lib.hid K0
    have HBW := Lib.hid hBW
    have HB0 := Lib.hid b0
    have HB1 := Lib.hid b1
    simp only [SpL.cells] at HIH HV b1 hW0 HB1 ⊢
    unfold spotV at HV
    simp only [KE.cells] at b0 hW0 HB0 HTM ⊢
    have c0 := b0.cell 0
    have c1 := b0.cell 1
    have c2 := b0.cell 2
    have c3 := b0.cell 3
    have c4 := b0.cell 4
    have c5 := b0.cell 5
    simp at c0 c1 c2 c3 c4 c5
    have d0 := b1.cell 0
    have d1 := b1.cell 1
    have d2 := b1.cell 2
    have d3 := b1.cell 3
    have d4 := b1.cell 4
    simp at d0 d1 d2 d3 d4
    have hlt := b0.lt
    have hlt1 := b1.lt
    obtain ⟨K, hK⟩ : ∃ K : Int, (e.kind : Int) = K := ⟨_, rfl⟩
    rw [hK] at c0 hW0 HTM HB0 ⊢
    obtain ⟨sp, hsp⟩ : ∃ a, varL g.s g.frame e.v = a := ⟨_, rfl⟩
    rw [hsp] at HV hcase
    obtain ⟨TV, hTV⟩ : ∃ a : Int, (tempsV e : Int) = a := ⟨_, rfl⟩
    rw [hTV] at HTM hcase
    obtain ⟨O0, hO0⟩ : ∃ a, offs0 g temp e = a := ⟨_, rfl⟩
    rw [hO0] at hRE hcase
    obtain ⟨AV, hAV⟩ : ∃ a, g.Av = a := ⟨_, rfl⟩
    rw [hAV] at HIH hcase ⊢
    obtain ⟨ev, hev⟩ : ∃ a, e.v = a := ⟨_, rfl⟩
    rw [hev] at c4 hW0 HV HTM HB0 hcase ⊢
    obtain ⟨nv, hnv⟩ : ∃ n, g.vars.length = n := ⟨_, rfl⟩
    rw [hnv] at HIH hcase hvl ⊢
    generalize g.cv = CV at *
    have hTV0 : 0 ≤ TV ∧ TV ≤ 256 := by omega
    have HRE := Lib.hid hRE
    clear hi hn hvi hB ih hall hfe hfl hdims b0 b1 hi0 hn0 hv0 hR hRE K0 hBW hsp hTV hO0 hAV hev hnv hdm hf64 htv
    have hcase2 : ((K == 2) = false ∧ (K == 3) = false ∧ O0 = some (temp + TV)) ∨
        (K = 2 ∨ K = 3) ∧ ((sp = none ∧ O0 = none) ∨ (∃ a, sp = some a ∧ a < 0 ∧ O0 = none) ∨ (∃ a, sp = some a ∧ ¬ a < 0 ∧ 65536 < a ∧ O0 = none) ∨
          (∃ a D b off k, sp = some a ∧ ¬ a < 0 ∧ ¬ 65536 < a ∧ 0 ≤ D ∧ D ≤ 64 ∧ ev = (k : Nat) ∧ k < nv ∧ AV = some ⟨b, off, none⟩ ∧ b < B ∧ W0.cell? ⟨b, off + k * 2 + 1, none⟩ = some (.int .i64 D) ∧ O0 = some (max (temp + TV) (a + max 1 D)))) := by
      rcases hcase with ⟨⟨h1, h2⟩, h3⟩ | ⟨h1, h2⟩
      · refine .inl ⟨?_, ?_, h3⟩
        · simp at h1 ⊢; omega
        · simp at h2 ⊢; omega
      · exact .inr ⟨by omega, h2⟩
    clear hcase hK
    rcases hcase2 with ⟨hk2, hk3, rfl⟩ | ⟨hk, hcase⟩
    · obtain ⟨N0, hN0⟩ : ∃ n, temp + TV = n := ⟨_, rfl⟩
      rw [hN0] at HRE
      have hNI : 0 ≤ N0 ∧ N0 ≤ 70000 := by omega
      have HN0 := Lib.hid hN0
      clear hN0
      go_enter Tryz.func14, Tryz.ntmps14
      go_wp2_with first
        | (go_at_call 15; (with_reducible refine HTM.out.mono ?_); rintro e1 w1 ⟨rfl, hb1⟩
           have KST := Lib.hid hb1
           have bp := HB0.out.below hb1 hlt
           have bq := HB1.out.below hb1 hlt1
           have p0 := bp.cell 0
           have p1 := bp.cell 1
           have p2 := bp.cell 2
           have p3 := bp.cell 3
           have p4 := bp.cell 4
           have p5 := bp.cell 5
           simp at p0 p1 p2 p3 p4 p5
           have q0 := bq.cell 0
           have q1 := bq.cell 1
           have q2 := bq.cell 2
           have q3 := bq.cell 3
           have q4 := bq.cell 4
           simp at q0 q1 q2 q3 q4
           have hlt2 : w.heap.size < w1.heap.size := Nat.lt_of_lt_of_le hlt hb1.size
           have hlt3 : w.heap.size + 1 < w1.heap.size := Nat.lt_of_lt_of_le hlt1 hb1.size
           clear bp bq hb1)
      go_loopw [12, 15] (fun a i wr => ∃ (k : Nat) (n : Int), k ≤ e.l.length ∧ a = .int .i64 n ∧ i = .int .i64 k ∧ Hid (offsL g temp (some N0) (e.l.take k) = some n) ∧ Hid (Below W0.heap.size W0 wr)) (fun _ i _ => e.l.length - (intOf i).toNat)
      case atStart => exact ⟨0, N0, Nat.zero_le _, by first | rfl | (rw [HN0.out]) | go_num, rfl, Lib.hid (by rw [List.take_zero, offsL]), KST⟩
      case round =>
        obtain ⟨k, n, hk, rfl, rfl, HT, HBR⟩ := hrel
        have hwr := HBR.out.size
        by_cases hltk : k < e.l.length
        · have hltI : (k : Int) < e.l.length := by omega
          have hbW : Below B W0 wr := HBR.out.mono HBW.out
          obtain ⟨b, off, x, hA, hb, hx, hin, r0, r1, r2, r3, r4, r5⟩ := kes_six (HI.out.parts.below hbW) hltk
          obtain ⟨ι, F, i0', h0', hFb, hcl⟩ := fam_below wr
          haveI : Nonempty ι := ⟨i0'⟩
          have a0 := (bcell HBR.out).1
          have zz : w.heap.size < wr.heap.size := by omega
          have zy : w.heap.size + 1 < wr.heap.size := by omega
          have zb : b < wr.heap.size := by have := HBW.out; omega
          have g5 := (a0 _ 5 hlt).trans c5
          have D0 : ∀ i, (F i).cell? ⟨w.heap.size + 1, 0, none⟩ = _ := fun i => ((bcell (hFb i)).1 _ _ zy).trans ((a0 _ 0 hlt1).trans d0)
          have D1 : ∀ i, (F i).cell? ⟨w.heap.size + 1, 1, none⟩ = _ := fun i => ((bcell (hFb i)).1 _ _ zy).trans ((a0 _ 1 hlt1).trans d1)
          have D2 : ∀ i, (F i).cell? ⟨w.heap.size + 1, 2, none⟩ = _ := fun i => ((bcell (hFb i)).1 _ _ zy).trans ((a0 _ 2 hlt1).trans d2)
          have D3 : ∀ i, (F i).cell? ⟨w.heap.size + 1, 3, none⟩ = _ := fun i => ((bcell (hFb i)).1 _ _ zy).trans ((a0 _ 3 hlt1).trans d3)
          have D4 : ∀ i, (F i).cell? ⟨w.heap.size + 1, 4, none⟩ = _ := fun i => ((bcell (hFb i)).1 _ _ zy).trans ((a0 _ 4 hlt1).trans d4)
          rw [hA] at g5
          have G5 : ∀ i, (F i).cell? ⟨w.heap.size, 5, none⟩ = _ := fun i => ((bcell (hFb i)).1 _ _ zz).trans g5
          have R0 : ∀ i, (F i).cell? ⟨b, off + k * 6, none⟩ = _ := fun i => ((bcell (hFb i)).1 _ _ zb).trans r0
          have R1 : ∀ i, (F i).cell? ⟨b, off + k * 6 + 1, none⟩ = _ := fun i => ((bcell (hFb i)).1 _ _ zb).trans r1
          have R2 : ∀ i, (F i).cell? ⟨b, off + k * 6 + 2, none⟩ = _ := fun i => ((bcell (hFb i)).1 _ _ zb).trans r2
          have R3 : ∀ i, (F i).cell? ⟨b, off + k * 6 + 3, none⟩ = _ := fun i => ((bcell (hFb i)).1 _ _ zb).trans r3
          have R4 : ∀ i, (F i).cell? ⟨b, off + k * 6 + 4, none⟩ = _ := fun i => ((bcell (hFb i)).1 _ _ zb).trans r4
          have R5 : ∀ i, (F i).cell? ⟨b, off + k * 6 + 5, none⟩ = _ := fun i => ((bcell (hFb i)).1 _ _ zb).trans r5
          have HFB := Lib.hid hFb
          obtain ⟨P, hP⟩ : ∃ P, offsE g temp x = P := ⟨_, rfl⟩
          have hC : ∀ i, Calls Tryz.prog 14 #[.agg x.cells, .slice AV nv CV, .agg #[.slice g.s.Af g.s.fr.length g.s.cf, .slice g.s.A1 g.s.vat.length g.s.c1, .slice g.s.A2 g.s.vin.length g.s.c2, .slice g.s.A3 g.s.cat.length g.s.c3, .slice g.s.A4 g.s.cin.length g.s.c4], .int .i64 g.frame, .int .i64 temp] (F i) (RetV (offsV P) (F i)) := fun i => by
            rw [← hP]
            exact HIH.out x (List.mem_of_getElem? hx) (F i) (hbW.trans ((hFb i).mono (by have := HBW.out; omega))) (by have := (hFb i).size; have := HBW.out; omega)
          have HX := Lib.hid hx
          have HP := Lib.hid hP
          unfold offsV at hC
          simp only [KE.cells] at hC
          clear hA hx hin a0 hbW hP hFb
          cases P with
          | none =>
            have HRN : Hid (R = none) := Lib.hid (HRE.out.trans (offsL_cut g temp HX.out HP.out))
            simp only [Option.getD_none, Option.isSome_none] at hC
            have HC := Lib.hid hC
            clear hC
            go_wp2
            refine wp_region_quiet_fam F i0' h0' (by kernel_rfl) (by kernel_rfl) ?_
            repeat (go_big_quiet_step (first | (go_at_call 14; (with_reducible refine (HC.out _).mono ?_); rintro e3 w3 ⟨rfl, hb3⟩; exact ⟨rfl, hcl _ _ hb3⟩)))
            refine wpQuiet_nil ?_
            intro i
            go_wp2
            go_ret2
            exact ⟨by rw [HRN.out]; rfl, HK0.out.trans ((HBR.out.trans ((HFB.out i).mono hwr)).mono HK0.out.size)⟩
          | some kk =>
            simp only [Option.getD_some, Option.isSome_some] at hC
            have HC := Lib.hid hC
            have HS : Hid (offsL g temp (some N0) (e.l.take (k + 1)) = some (max n kk)) := Lib.hid (by rw [List.take_add_one, HX.out]; exact (offsL_snoc g temp _ _ _).trans (by rw [HT.out, HP.out]; rfl))
            clear hC
            by_cases hnk : n < kk
            · have hmx : max n kk = kk := by omega
              rw [hmx] at HS
              go_wp2
              refine wp_region_quiet_fam F i0' h0' (by kernel_rfl) (by kernel_rfl) ?_
              repeat (go_big_quiet_step (first | (go_at_call 14; (with_reducible refine (HC.out _).mono ?_); rintro e3 w3 ⟨rfl, hb3⟩; exact ⟨rfl, hcl _ _ hb3⟩)))
              refine wpQuiet_nil ?_
              intro i
              go_wp2
              all_goals
                go_roundw
                case rel => exact ⟨k + 1, kk, by omega, by go_num, by go_num, HS, Lib.hid (HBR.out.trans ((HFB.out i).mono hwr))⟩
                case measure => simp [intOf]; omega
            · have hmx : max n kk = n := by omega
              rw [hmx] at HS
              go_wp2
              refine wp_region_quiet_fam F i0' h0' (by kernel_rfl) (by kernel_rfl) ?_
              repeat (go_big_quiet_step (first | (go_at_call 14; (with_reducible refine (HC.out _).mono ?_); rintro e3 w3 ⟨rfl, hb3⟩; exact ⟨rfl, hcl _ _ hb3⟩)))
              refine wpQuiet_nil ?_
              intro i
              go_wp2
              all_goals
                go_roundw
                case rel => exact ⟨k + 1, n, by omega, by go_num, by go_num, HS, Lib.hid (HBR.out.trans ((HFB.out i).mono hwr))⟩
                case measure => simp [intOf]; omega
        · have hltI : ¬ (k : Int) < e.l.length := by omega
          have a0 := (bcell HBR.out).1
          have g5 := (a0 _ 5 hlt).trans c5
          obtain rfl : k = e.l.length := by omega
          have HRT : Hid (R = some n) := Lib.hid (by rw [HRE.out, ← HT.out, List.take_of_length_le (Nat.le_refl _)])
          go_wp2
          go_ret2
          exact ⟨by rw [HRT.out]; rfl, HK0.out.trans (HBR.out.mono HK0.out.size)⟩
    · rcases hcase with ⟨rfl, rfl⟩ | ⟨a, rfl, ha1, rfl⟩ | ⟨a, rfl, ha1, ha2, rfl⟩ | ⟨a, D, bv, ov, k0, rfl, ha1, ha2, hD1, hD2, rfl, hk0, rfl, hbv, v1, rfl⟩
      · have HRN : Hid (R = none) := Lib.hid (HRE.out.trans (offsL_none g temp _))
        simp only [Option.getD_some, Option.isSome_some, Option.getD_none, Option.isSome_none] at HV
        rcases hk with rfl | rfl
        all_goals
          go_enter Tryz.func14, Tryz.ntmps14
          go_wp2_with first
            | (go_at_call 15; (with_reducible refine HTM.out.mono ?_); rintro e1 w1 ⟨rfl, hb1⟩
               have KST := Lib.hid hb1
               have bp := HB0.out.below hb1 hlt
               have bq := HB1.out.below hb1 hlt1
               have p0 := bp.cell 0
               have p1 := bp.cell 1
               have p2 := bp.cell 2
               have p3 := bp.cell 3
               have p4 := bp.cell 4
               have p5 := bp.cell 5
               simp at p0 p1 p2 p3 p4 p5
               have q0 := bq.cell 0
               have q1 := bq.cell 1
               have q2 := bq.cell 2
               have q3 := bq.cell 3
               have q4 := bq.cell 4
               simp at q0 q1 q2 q3 q4
               have hlt2 : w.heap.size < w1.heap.size := Nat.lt_of_lt_of_le hlt hb1.size
               have hlt3 : w.heap.size + 1 < w1.heap.size := Nat.lt_of_lt_of_le hlt1 hb1.size
               clear bp bq hb1)
            | (go_at_call 32; (with_reducible refine (HV.out _ (KST.out.mono HBW.out) (Nat.le_trans HBW.out KST.out.size)).mono ?_); rintro e2 w2 ⟨rfl, hb2⟩
               have KS2 := Lib.hid (KST.out.trans (hb2.mono KST.out.size))
               have br := HB0.out.below KS2.out hlt
               have r0 := br.cell 0
               have r1 := br.cell 1
               have r2 := br.cell 2
               have r3 := br.cell 3
               have r4 := br.cell 4
               have r5 := br.cell 5
               simp at r0 r1 r2 r3 r4 r5
               have hlt4 : w.heap.size < w2.heap.size := Nat.lt_of_lt_of_le hlt KS2.out.size
               clear br hb2)
          go_ret2
          exact ⟨by rw [HRN.out]; rfl, HK0.out.trans (KS2.out.mono HK0.out.size)⟩
      · have HRN : Hid (R = none) := Lib.hid (HRE.out.trans (offsL_none g temp _))
        simp only [Option.getD_some, Option.isSome_some, Option.getD_none, Option.isSome_none] at HV
        rcases hk with rfl | rfl
        all_goals
          go_enter Tryz.func14, Tryz.ntmps14
          go_wp2_with first
            | (go_at_call 15; (with_reducible refine HTM.out.mono ?_); rintro e1 w1 ⟨rfl, hb1⟩
               have KST := Lib.hid hb1
               have bp := HB0.out.below hb1 hlt
               have bq := HB1.out.below hb1 hlt1
               have p0 := bp.cell 0
               have p1 := bp.cell 1
               have p2 := bp.cell 2
               have p3 := bp.cell 3
               have p4 := bp.cell 4
               have p5 := bp.cell 5
               simp at p0 p1 p2 p3 p4 p5
               have q0 := bq.cell 0
               have q1 := bq.cell 1
               have q2 := bq.cell 2
               have q3 := bq.cell 3
               have q4 := bq.cell 4
               simp at q0 q1 q2 q3 q4
               have hlt2 : w.heap.size < w1.heap.size := Nat.lt_of_lt_of_le hlt hb1.size
               have hlt3 : w.heap.size + 1 < w1.heap.size := Nat.lt_of_lt_of_le hlt1 hb1.size
               clear bp bq hb1)
            | (go_at_call 32; (with_reducible refine (HV.out _ (KST.out.mono HBW.out) (Nat.le_trans HBW.out KST.out.size)).mono ?_); rintro e2 w2 ⟨rfl, hb2⟩
               have KS2 := Lib.hid (KST.out.trans (hb2.mono KST.out.size))
               have br := HB0.out.below KS2.out hlt
               have r0 := br.cell 0
               have r1 := br.cell 1
               have r2 := br.cell 2
               have r3 := br.cell 3
               have r4 := br.cell 4
               have r5 := br.cell 5
               simp at r0 r1 r2 r3 r4 r5
               have hlt4 : w.heap.size < w2.heap.size := Nat.lt_of_lt_of_le hlt KS2.out.size
               clear br hb2)
          go_ret2
          exact ⟨by rw [HRN.out]; rfl, HK0.out.trans (KS2.out.mono HK0.out.size)⟩
      · have HRN : Hid (R = none) := Lib.hid (HRE.out.trans (offsL_none g temp _))
        simp only [Option.getD_some, Option.isSome_some, Option.getD_none, Option.isSome_none] at HV
        rcases hk with rfl | rfl
        all_goals
          go_enter Tryz.func14, Tryz.ntmps14
          go_wp2_with first
            | (go_at_call 15; (with_reducible refine HTM.out.mono ?_); rintro e1 w1 ⟨rfl, hb1⟩
               have KST := Lib.hid hb1
               have bp := HB0.out.below hb1 hlt
               have bq := HB1.out.below hb1 hlt1
               have p0 := bp.cell 0
               have p1 := bp.cell 1
               have p2 := bp.cell 2
               have p3 := bp.cell 3
               have p4 := bp.cell 4
               have p5 := bp.cell 5
               simp at p0 p1 p2 p3 p4 p5
               have q0 := bq.cell 0
               have q1 := bq.cell 1
               have q2 := bq.cell 2
               have q3 := bq.cell 3
               have q4 := bq.cell 4
               simp at q0 q1 q2 q3 q4
               have hlt2 : w.heap.size < w1.heap.size := Nat.lt_of_lt_of_le hlt hb1.size
               have hlt3 : w.heap.size + 1 < w1.heap.size := Nat.lt_of_lt_of_le hlt1 hb1.size
               clear bp bq hb1)
            | (go_at_call 32; (with_reducible refine (HV.out _ (KST.out.mono HBW.out) (Nat.le_trans HBW.out KST.out.size)).mono ?_); rintro e2 w2 ⟨rfl, hb2⟩
               have KS2 := Lib.hid (KST.out.trans (hb2.mono KST.out.size))
               have br := HB0.out.below KS2.out hlt
               have r0 := br.cell 0
               have r1 := br.cell 1
               have r2 := br.cell 2
               have r3 := br.cell 3
               have r4 := br.cell 4
               have r5 := br.cell 5
               simp at r0 r1 r2 r3 r4 r5
               have hlt4 : w.heap.size < w2.heap.size := Nat.lt_of_lt_of_le hlt KS2.out.size
               clear br hb2)
          go_ret2
          exact ⟨by rw [HRN.out]; rfl, HK0.out.trans (KS2.out.mono HK0.out.size)⟩
      · simp only [Option.getD_some, Option.isSome_some] at HV
        have hbv0 : bv < W0.heap.size := Nat.lt_of_lt_of_le hbv HBW.out
        have hk0I : (k0 : Int) < nv := by omega
        obtain ⟨N0, hN0⟩ : ∃ n, max (temp + TV) (a + max 1 D) = n := ⟨_, rfl⟩
        rw [hN0] at HRE
        have hNI : 0 ≤ N0 ∧ N0 ≤ 70000 := by omega
        have HN0 := Lib.hid hN0
        clear hN0
        rcases hk with rfl | rfl
        · go_enter Tryz.func14, Tryz.ntmps14
          go_upto_region 6 with first
            | (go_at_call 15; (with_reducible refine HTM.out.mono ?_); rintro e1 w1 ⟨rfl, hb1⟩
               have KST := Lib.hid hb1
               have bp := HB0.out.below hb1 hlt
               have bq := HB1.out.below hb1 hlt1
               have p0 := bp.cell 0
               have p1 := bp.cell 1
               have p2 := bp.cell 2
               have p3 := bp.cell 3
               have p4 := bp.cell 4
               have p5 := bp.cell 5
               simp at p0 p1 p2 p3 p4 p5
               have q0 := bq.cell 0
               have q1 := bq.cell 1
               have q2 := bq.cell 2
               have q3 := bq.cell 3
               have q4 := bq.cell 4
               simp at q0 q1 q2 q3 q4
               have hlt2 : w.heap.size < w1.heap.size := Nat.lt_of_lt_of_le hlt hb1.size
               have hlt3 : w.heap.size + 1 < w1.heap.size := Nat.lt_of_lt_of_le hlt1 hb1.size
               clear bp bq hb1)
            | (go_at_call 32; (with_reducible refine (HV.out _ (KST.out.mono HBW.out) (Nat.le_trans HBW.out KST.out.size)).mono ?_); rintro e2 w2 ⟨rfl, hb2⟩
               have KS2 := Lib.hid (KST.out.trans (hb2.mono KST.out.size))
               have br := HB0.out.below KS2.out hlt
               have r0 := br.cell 0
               have r1 := br.cell 1
               have r2 := br.cell 2
               have r3 := br.cell 3
               have r4 := br.cell 4
               have r5 := br.cell 5
               simp at r0 r1 r2 r3 r4 r5
               have hlt4 : w.heap.size < w2.heap.size := Nat.lt_of_lt_of_le hlt KS2.out.size
               clear br hb2)
          have v2 := ((bcell KS2.out).1 _ _ hbv0).trans v1
          have hbv2 : bv < w2.heap.size := Nat.lt_of_lt_of_le hbv0 KS2.out.size
          go_cut [12] (fun s wx => s = .int .i64 N0 ∧ wx = w2)
          case first =>
            go_wp2
            all_goals
              go_meet
              exact ⟨by have := HN0.out; first | (congr 1; omega) | go_num, rfl⟩
          case rest =>
            obtain ⟨rfl, rfl⟩ := hcut
            have KST := KS2
            go_wp2
            go_loopw [12, 15] (fun a i wr => ∃ (k : Nat) (n : Int), k ≤ e.l.length ∧ a = .int .i64 n ∧ i = .int .i64 k ∧ Hid (offsL g temp (some N0) (e.l.take k) = some n) ∧ Hid (Below W0.heap.size W0 wr)) (fun _ i _ => e.l.length - (intOf i).toNat)
            case atStart => exact ⟨0, N0, Nat.zero_le _, by first | rfl | (rw [HN0.out]) | go_num, rfl, Lib.hid (by rw [List.take_zero, offsL]), KST⟩
            case round =>
              obtain ⟨k, n, hk, rfl, rfl, HT, HBR⟩ := hrel
              have hwr := HBR.out.size
              by_cases hltk : k < e.l.length
              · have hltI : (k : Int) < e.l.length := by omega
                have hbW : Below B W0 wr := HBR.out.mono HBW.out
                obtain ⟨b, off, x, hA, hb, hx, hin, r0, r1, r2, r3, r4, r5⟩ := kes_six (HI.out.parts.below hbW) hltk
                obtain ⟨ι, F, i0', h0', hFb, hcl⟩ := fam_below wr
                haveI : Nonempty ι := ⟨i0'⟩
                have a0 := (bcell HBR.out).1
                have zz : w.heap.size < wr.heap.size := by omega
                have zy : w.heap.size + 1 < wr.heap.size := by omega
                have zb : b < wr.heap.size := by have := HBW.out; omega
                have g5 := (a0 _ 5 hlt).trans c5
                have D0 : ∀ i, (F i).cell? ⟨w.heap.size + 1, 0, none⟩ = _ := fun i => ((bcell (hFb i)).1 _ _ zy).trans ((a0 _ 0 hlt1).trans d0)
                have D1 : ∀ i, (F i).cell? ⟨w.heap.size + 1, 1, none⟩ = _ := fun i => ((bcell (hFb i)).1 _ _ zy).trans ((a0 _ 1 hlt1).trans d1)
                have D2 : ∀ i, (F i).cell? ⟨w.heap.size + 1, 2, none⟩ = _ := fun i => ((bcell (hFb i)).1 _ _ zy).trans ((a0 _ 2 hlt1).trans d2)
                have D3 : ∀ i, (F i).cell? ⟨w.heap.size + 1, 3, none⟩ = _ := fun i => ((bcell (hFb i)).1 _ _ zy).trans ((a0 _ 3 hlt1).trans d3)
                have D4 : ∀ i, (F i).cell? ⟨w.heap.size + 1, 4, none⟩ = _ := fun i => ((bcell (hFb i)).1 _ _ zy).trans ((a0 _ 4 hlt1).trans d4)
                rw [hA] at g5
                have G5 : ∀ i, (F i).cell? ⟨w.heap.size, 5, none⟩ = _ := fun i => ((bcell (hFb i)).1 _ _ zz).trans g5
                have R0 : ∀ i, (F i).cell? ⟨b, off + k * 6, none⟩ = _ := fun i => ((bcell (hFb i)).1 _ _ zb).trans r0
                have R1 : ∀ i, (F i).cell? ⟨b, off + k * 6 + 1, none⟩ = _ := fun i => ((bcell (hFb i)).1 _ _ zb).trans r1
                have R2 : ∀ i, (F i).cell? ⟨b, off + k * 6 + 2, none⟩ = _ := fun i => ((bcell (hFb i)).1 _ _ zb).trans r2
                have R3 : ∀ i, (F i).cell? ⟨b, off + k * 6 + 3, none⟩ = _ := fun i => ((bcell (hFb i)).1 _ _ zb).trans r3
                have R4 : ∀ i, (F i).cell? ⟨b, off + k * 6 + 4, none⟩ = _ := fun i => ((bcell (hFb i)).1 _ _ zb).trans r4
                have R5 : ∀ i, (F i).cell? ⟨b, off + k * 6 + 5, none⟩ = _ := fun i => ((bcell (hFb i)).1 _ _ zb).trans r5
                have HFB := Lib.hid hFb
                obtain ⟨P, hP⟩ : ∃ P, offsE g temp x = P := ⟨_, rfl⟩
                have hC : ∀ i, Calls Tryz.prog 14 #[.agg x.cells, .slice (some ⟨bv, ov, none⟩) nv CV, .agg #[.slice g.s.Af g.s.fr.length g.s.cf, .slice g.s.A1 g.s.vat.length g.s.c1, .slice g.s.A2 g.s.vin.length g.s.c2, .slice g.s.A3 g.s.cat.length g.s.c3, .slice g.s.A4 g.s.cin.length g.s.c4], .int .i64 g.frame, .int .i64 temp] (F i) (RetV (offsV P) (F i)) := fun i => by
                  rw [← hP]
                  exact HIH.out x (List.mem_of_getElem? hx) (F i) (hbW.trans ((hFb i).mono (by have := HBW.out; omega))) (by have := (hFb i).size; have := HBW.out; omega)
                have HX := Lib.hid hx
                have HP := Lib.hid hP
                unfold offsV at hC
                simp only [KE.cells] at hC
                clear hA hx hin a0 hbW hP hFb
                cases P with
                | none =>
                  have HRN : Hid (R = none) := Lib.hid (HRE.out.trans (offsL_cut g temp HX.out HP.out))
                  simp only [Option.getD_none, Option.isSome_none] at hC
                  have HC := Lib.hid hC
                  clear hC
                  go_wp2
                  refine wp_region_quiet_fam F i0' h0' (by kernel_rfl) (by kernel_rfl) ?_
                  repeat (go_big_quiet_step (first | (go_at_call 14; (with_reducible refine (HC.out _).mono ?_); rintro e3 w3 ⟨rfl, hb3⟩; exact ⟨rfl, hcl _ _ hb3⟩)))
                  refine wpQuiet_nil ?_
                  intro i
                  go_wp2
                  go_ret2
                  exact ⟨by rw [HRN.out]; rfl, HK0.out.trans ((HBR.out.trans ((HFB.out i).mono hwr)).mono HK0.out.size)⟩
                | some kk =>
                  simp only [Option.getD_some, Option.isSome_some] at hC
                  have HC := Lib.hid hC
                  have HS : Hid (offsL g temp (some N0) (e.l.take (k + 1)) = some (max n kk)) := Lib.hid (by rw [List.take_add_one, HX.out]; exact (offsL_snoc g temp _ _ _).trans (by rw [HT.out, HP.out]; rfl))
                  clear hC
                  by_cases hnk : n < kk
                  · have hmx : max n kk = kk := by omega
                    rw [hmx] at HS
                    go_wp2
                    refine wp_region_quiet_fam F i0' h0' (by kernel_rfl) (by kernel_rfl) ?_
                    repeat (go_big_quiet_step (first | (go_at_call 14; (with_reducible refine (HC.out _).mono ?_); rintro e3 w3 ⟨rfl, hb3⟩; exact ⟨rfl, hcl _ _ hb3⟩)))
                    refine wpQuiet_nil ?_
                    intro i
                    go_wp2
                    all_goals
                      go_roundw
                      case rel => exact ⟨k + 1, kk, by omega, by go_num, by go_num, HS, Lib.hid (HBR.out.trans ((HFB.out i).mono hwr))⟩
                      case measure => simp [intOf]; omega
                  · have hmx : max n kk = n := by omega
                    rw [hmx] at HS
                    go_wp2
                    refine wp_region_quiet_fam F i0' h0' (by kernel_rfl) (by kernel_rfl) ?_
                    repeat (go_big_quiet_step (first | (go_at_call 14; (with_reducible refine (HC.out _).mono ?_); rintro e3 w3 ⟨rfl, hb3⟩; exact ⟨rfl, hcl _ _ hb3⟩)))
                    refine wpQuiet_nil ?_
                    intro i
                    go_wp2
                    all_goals
                      go_roundw
                      case rel => exact ⟨k + 1, n, by omega, by go_num, by go_num, HS, Lib.hid (HBR.out.trans ((HFB.out i).mono hwr))⟩
                      case measure => simp [intOf]; omega
              · have hltI : ¬ (k : Int) < e.l.length := by omega
                have a0 := (bcell HBR.out).1
                have g5 := (a0 _ 5 hlt).trans c5
                obtain rfl : k = e.l.length := by omega
                have HRT : Hid (R = some n) := Lib.hid (by rw [HRE.out, ← HT.out, List.take_of_length_le (Nat.le_refl _)])
                go_wp2
                go_ret2
                exact ⟨by rw [HRT.out]; rfl, HK0.out.trans (HBR.out.mono HK0.out.size)⟩
        · go_enter Tryz.func14, Tryz.ntmps14
          go_upto_region 6 with first
            | (go_at_call 15; (with_reducible refine HTM.out.mono ?_); rintro e1 w1 ⟨rfl, hb1⟩
               have KST := Lib.hid hb1
               have bp := HB0.out.below hb1 hlt
               have bq := HB1.out.below hb1 hlt1
               have p0 := bp.cell 0
               have p1 := bp.cell 1
               have p2 := bp.cell 2
               have p3 := bp.cell 3
               have p4 := bp.cell 4
               have p5 := bp.cell 5
               simp at p0 p1 p2 p3 p4 p5
               have q0 := bq.cell 0
               have q1 := bq.cell 1
               have q2 := bq.cell 2
               have q3 := bq.cell 3
               have q4 := bq.cell 4
               simp at q0 q1 q2 q3 q4
               have hlt2 : w.heap.size < w1.heap.size := Nat.lt_of_lt_of_le hlt hb1.size
               have hlt3 : w.heap.size + 1 < w1.heap.size := Nat.lt_of_lt_of_le hlt1 hb1.size
               clear bp bq hb1)
            | (go_at_call 32; (with_reducible refine (HV.out _ (KST.out.mono HBW.out) (Nat.le_trans HBW.out KST.out.size)).mono ?_); rintro e2 w2 ⟨rfl, hb2⟩
               have KS2 := Lib.hid (KST.out.trans (hb2.mono KST.out.size))
               have br := HB0.out.below KS2.out hlt
               have r0 := br.cell 0
               have r1 := br.cell 1
               have r2 := br.cell 2
               have r3 := br.cell 3
               have r4 := br.cell 4
               have r5 := br.cell 5
               simp at r0 r1 r2 r3 r4 r5
               have hlt4 : w.heap.size < w2.heap.size := Nat.lt_of_lt_of_le hlt KS2.out.size
               clear br hb2)
          have v2 := ((bcell KS2.out).1 _ _ hbv0).trans v1
          have hbv2 : bv < w2.heap.size := Nat.lt_of_lt_of_le hbv0 KS2.out.size
          go_cut [12] (fun s wx => s = .int .i64 N0 ∧ wx = w2)
          case first =>
            go_wp2
            all_goals
              go_meet
              exact ⟨by have := HN0.out; first | (congr 1; omega) | go_num, rfl⟩
          case rest =>
            obtain ⟨rfl, rfl⟩ := hcut
            have KST := KS2
            go_wp2
            go_loopw [12, 15] (fun a i wr => ∃ (k : Nat) (n : Int), k ≤ e.l.length ∧ a = .int .i64 n ∧ i = .int .i64 k ∧ Hid (offsL g temp (some N0) (e.l.take k) = some n) ∧ Hid (Below W0.heap.size W0 wr)) (fun _ i _ => e.l.length - (intOf i).toNat)
            case atStart => exact ⟨0, N0, Nat.zero_le _, by first | rfl | (rw [HN0.out]) | go_num, rfl, Lib.hid (by rw [List.take_zero, offsL]), KST⟩
            case round =>
              obtain ⟨k, n, hk, rfl, rfl, HT, HBR⟩ := hrel
              have hwr := HBR.out.size
              by_cases hltk : k < e.l.length
              · have hltI : (k : Int) < e.l.length := by omega
                have hbW : Below B W0 wr := HBR.out.mono HBW.out
                obtain ⟨b, off, x, hA, hb, hx, hin, r0, r1, r2, r3, r4, r5⟩ := kes_six (HI.out.parts.below hbW) hltk
                obtain ⟨ι, F, i0', h0', hFb, hcl⟩ := fam_below wr
                haveI : Nonempty ι := ⟨i0'⟩
                have a0 := (bcell HBR.out).1
                have zz : w.heap.size < wr.heap.size := by omega
                have zy : w.heap.size + 1 < wr.heap.size := by omega
                have zb : b < wr.heap.size := by have := HBW.out; omega
                have g5 := (a0 _ 5 hlt).trans c5
                have D0 : ∀ i, (F i).cell? ⟨w.heap.size + 1, 0, none⟩ = _ := fun i => ((bcell (hFb i)).1 _ _ zy).trans ((a0 _ 0 hlt1).trans d0)
                have D1 : ∀ i, (F i).cell? ⟨w.heap.size + 1, 1, none⟩ = _ := fun i => ((bcell (hFb i)).1 _ _ zy).trans ((a0 _ 1 hlt1).trans d1)
                have D2 : ∀ i, (F i).cell? ⟨w.heap.size + 1, 2, none⟩ = _ := fun i => ((bcell (hFb i)).1 _ _ zy).trans ((a0 _ 2 hlt1).trans d2)
                have D3 : ∀ i, (F i).cell? ⟨w.heap.size + 1, 3, none⟩ = _ := fun i => ((bcell (hFb i)).1 _ _ zy).trans ((a0 _ 3 hlt1).trans d3)
                have D4 : ∀ i, (F i).cell? ⟨w.heap.size + 1, 4, none⟩ = _ := fun i => ((bcell (hFb i)).1 _ _ zy).trans ((a0 _ 4 hlt1).trans d4)
                rw [hA] at g5
                have G5 : ∀ i, (F i).cell? ⟨w.heap.size, 5, none⟩ = _ := fun i => ((bcell (hFb i)).1 _ _ zz).trans g5
                have R0 : ∀ i, (F i).cell? ⟨b, off + k * 6, none⟩ = _ := fun i => ((bcell (hFb i)).1 _ _ zb).trans r0
                have R1 : ∀ i, (F i).cell? ⟨b, off + k * 6 + 1, none⟩ = _ := fun i => ((bcell (hFb i)).1 _ _ zb).trans r1
                have R2 : ∀ i, (F i).cell? ⟨b, off + k * 6 + 2, none⟩ = _ := fun i => ((bcell (hFb i)).1 _ _ zb).trans r2
                have R3 : ∀ i, (F i).cell? ⟨b, off + k * 6 + 3, none⟩ = _ := fun i => ((bcell (hFb i)).1 _ _ zb).trans r3
                have R4 : ∀ i, (F i).cell? ⟨b, off + k * 6 + 4, none⟩ = _ := fun i => ((bcell (hFb i)).1 _ _ zb).trans r4
                have R5 : ∀ i, (F i).cell? ⟨b, off + k * 6 + 5, none⟩ = _ := fun i => ((bcell (hFb i)).1 _ _ zb).trans r5
                have HFB := Lib.hid hFb
                obtain ⟨P, hP⟩ : ∃ P, offsE g temp x = P := ⟨_, rfl⟩
                have hC : ∀ i, Calls Tryz.prog 14 #[.agg x.cells, .slice (some ⟨bv, ov, none⟩) nv CV, .agg #[.slice g.s.Af g.s.fr.length g.s.cf, .slice g.s.A1 g.s.vat.length g.s.c1, .slice g.s.A2 g.s.vin.length g.s.c2, .slice g.s.A3 g.s.cat.length g.s.c3, .slice g.s.A4 g.s.cin.length g.s.c4], .int .i64 g.frame, .int .i64 temp] (F i) (RetV (offsV P) (F i)) := fun i => by
                  rw [← hP]
                  exact HIH.out x (List.mem_of_getElem? hx) (F i) (hbW.trans ((hFb i).mono (by have := HBW.out; omega))) (by have := (hFb i).size; have := HBW.out; omega)
                have HX := Lib.hid hx
                have HP := Lib.hid hP
                unfold offsV at hC
                simp only [KE.cells] at hC
                clear hA hx hin a0 hbW hP hFb
                cases P with
                | none =>
                  have HRN : Hid (R = none) := Lib.hid (HRE.out.trans (offsL_cut g temp HX.out HP.out))
                  simp only [Option.getD_none, Option.isSome_none] at hC
                  have HC := Lib.hid hC
                  clear hC
                  go_wp2
                  refine wp_region_quiet_fam F i0' h0' (by kernel_rfl) (by kernel_rfl) ?_
                  repeat (go_big_quiet_step (first | (go_at_call 14; (with_reducible refine (HC.out _).mono ?_); rintro e3 w3 ⟨rfl, hb3⟩; exact ⟨rfl, hcl _ _ hb3⟩)))
                  refine wpQuiet_nil ?_
                  intro i
                  go_wp2
                  go_ret2
                  exact ⟨by rw [HRN.out]; rfl, HK0.out.trans ((HBR.out.trans ((HFB.out i).mono hwr)).mono HK0.out.size)⟩
                | some kk =>
                  simp only [Option.getD_some, Option.isSome_some] at hC
                  have HC := Lib.hid hC
                  have HS : Hid (offsL g temp (some N0) (e.l.take (k + 1)) = some (max n kk)) := Lib.hid (by rw [List.take_add_one, HX.out]; exact (offsL_snoc g temp _ _ _).trans (by rw [HT.out, HP.out]; rfl))
                  clear hC
                  by_cases hnk : n < kk
                  · have hmx : max n kk = kk := by omega
                    rw [hmx] at HS
                    go_wp2
                    refine wp_region_quiet_fam F i0' h0' (by kernel_rfl) (by kernel_rfl) ?_
                    repeat (go_big_quiet_step (first | (go_at_call 14; (with_reducible refine (HC.out _).mono ?_); rintro e3 w3 ⟨rfl, hb3⟩; exact ⟨rfl, hcl _ _ hb3⟩)))
                    refine wpQuiet_nil ?_
                    intro i
                    go_wp2
                    all_goals
                      go_roundw
                      case rel => exact ⟨k + 1, kk, by omega, by go_num, by go_num, HS, Lib.hid (HBR.out.trans ((HFB.out i).mono hwr))⟩
                      case measure => simp [intOf]; omega
                  · have hmx : max n kk = n := by omega
                    rw [hmx] at HS
                    go_wp2
                    refine wp_region_quiet_fam F i0' h0' (by kernel_rfl) (by kernel_rfl) ?_
                    repeat (go_big_quiet_step (first | (go_at_call 14; (with_reducible refine (HC.out _).mono ?_); rintro e3 w3 ⟨rfl, hb3⟩; exact ⟨rfl, hcl _ _ hb3⟩)))
                    refine wpQuiet_nil ?_
                    intro i
                    go_wp2
                    all_goals
                      go_roundw
                      case rel => exact ⟨k + 1, n, by omega, by go_num, by go_num, HS, Lib.hid (HBR.out.trans ((HFB.out i).mono hwr))⟩
                      case measure => simp [intOf]; omega
              · have hltI : ¬ (k : Int) < e.l.length := by omega
                have a0 := (bcell HBR.out).1
                have g5 := (a0 _ 5 hlt).trans c5
                obtain rfl : k = e.l.length := by omega
                have HRT : Hid (R = some n) := Lib.hid (by rw [HRE.out, ← HT.out, List.take_of_length_le (Nat.le_refl _)])
                go_wp2
                go_ret2
                exact ⟨by rw [HRT.out]; rfl, HK0.out.trans (HBR.out.mono HK0.out.size)⟩
end Go.Proofs.YtbefmlioampgcaaGreatDoor
