/- Whether the variables of an expression exist and have offsets: known, walked. -/
import Derived.Test.YtbefmlioampgcaaDoorHCW
namespace Go.Proofs.YtbefmlioampgcaaDoor
open Go.RowKit
set_option linter.unusedVariables false
set_option linter.unusedSimpArgs false

def offB (g : EmL) (v : Int) : Bool := match varL g.s g.frame v with
  | none => false
  | some a => decide (wrap32 a = a)
/-- Variable v is not there, or not as the kind wants it. -/
def badB (g : EmL) (k : Nat) (v : Int) : Bool := decide ((g.vars.length : Int) ≤ v) || (((g.vars.getD v.toNat ⟨0, 0⟩).dim == 0) != (k == 2))
mutual
def knownE (g : EmL) : KE → Bool × Bool
  | ⟨k, _, _, _, v, _, _, l⟩ => if k = 2 ∨ k = 3 then (if badB g k v then (false, false) else knownL g (true, offB g v) l) else knownL g (true, true) l
def knownL (g : EmL) (p : Bool × Bool) : List KE → Bool × Bool
  | [] => p
  | e :: l => knownL g (p.1 && (knownE g e).1, p.2 && (knownE g e).2) l
end
theorem knownE_eq (g : EmL) (e : KE) : knownE g e = if e.kind = 2 ∨ e.kind = 3 then (if badB g e.kind e.v then (false, false) else knownL g (true, offB g e.v) e.l) else knownL g (true, true) e.l := by
  obtain ⟨k, o, t, n, v, A, c, l⟩ := e
  rw [knownE]
theorem knownL_snoc (g : EmL) : ∀ (l : List KE) (p : Bool × Bool) (x : KE), knownL g p (l ++ [x]) = ((knownL g p l).1 && (knownE g x).1, (knownL g p l).2 && (knownE g x).2)
  | [], p, x => by rw [List.nil_append, knownL, knownL, knownL]
  | y :: l, p, x => by rw [List.cons_append, knownL, knownL]; exact knownL_snoc g l _ x
def EmL.ecells (g : EmL) : Array Value :=
  #[.slice g.Av g.vars.length g.cv, .slice g.s.Af g.s.fr.length g.s.cf, .slice g.s.A1 g.s.vat.length g.s.c1, .slice g.s.A2 g.s.vin.length g.s.c2, .slice g.s.A3 g.s.cat.length g.s.c3, .slice g.s.A4 g.s.cin.length g.s.c4, .int .i64 g.frame, .string (strB g.label)]
theorem w64_32 (a : Int) : wrap64 (wrap32 a) = wrap32 a := by unfold wrap64 wrap32; omega
def KnOk (g : EmL) (e : KE) : Prop := e.all (fun x => fieldsB x = true) → ∀ (B : Nat) (w : World), e.In w B → EnvIn g w B → B ≤ w.heap.size → Calls Tryd.prog 41 #[.agg g.ecells, .agg e.cells] w (RetV (.tuple #[.bool (knownE g e).1, .bool (knownE g e).2]) w)
set_option maxRecDepth 100000 in
set_option maxHeartbeats 8000000 in
theorem gKnown (g : EmL) (e : KE) : KnOk g e := by
  induction e using KE.ind with
  | h e ih =>
    intro hall B w hi hn hB
    obtain ⟨hfe, hfl⟩ := KE.all_iff.1 hall
    obtain ⟨W0, hW0⟩ : ∃ W, (w.alloc (.cells g.ecells 88)).alloc (.cells e.cells 36) = W := ⟨_, rfl⟩
    have K0 : Below w.heap.size w W0 := by rw [← hW0]; exact below_2 w _ _
    have b2 : Blk W0 w.heap.size 88 g.ecells := by rw [← hW0]; exact (Blk.new w _ _).alloc _
    have b3 : Blk W0 (w.heap.size + 1) 36 e.cells := by rw [← hW0]; exact blk_2 w _ _ _
    have hi0 := hi.below (K0.mono hB)
    have hn0 := hn.below (K0.mono hB)
    have hBW : B ≤ W0.heap.size := Nat.le_trans hB K0.size
    have HKQ := knownE_eq g e
    have hvr : e.kind = 2 ∨ e.kind = 3 → 0 ≤ e.v ∧ e.v < 256 := fun hk => by
      unfold fieldsB at hfe
      rcases hk with hk | hk
      all_goals
        rw [hk] at hfe
        have := of_decide_eq_true hfe
        omega
    obtain ⟨RK, hRK⟩ : ∃ x, knownE g e = x := ⟨_, rfl⟩
    rw [hRK] at HKQ ⊢
    have HQ := Lib.hid HKQ
    have HB2 := Lib.hid b2
    have HB3 := Lib.hid b3
    have HI := Lib.hid hi0
    have HN := Lib.hid hn0
    have HIH : Hid (∀ x ∈ e.l, ∀ W, Below B W0 W → B ≤ W.heap.size → Calls Tryd.prog 41 #[.agg g.ecells, .agg x.cells] W (RetV (.tuple #[.bool (knownE g x).1, .bool (knownE g x).2]) W)) := Lib.hid fun x hx W hb hs =>
      ih x hx (hfl x hx) B W ((hi0.part hx).below hb) (hn0.below hb) hs
    have HV : Hid (∀ W, Below B W0 W → B ≤ W.heap.size → i64ok e.v → Calls Tryd.prog 70 #[.agg g.s.cells, .int .i64 g.frame, .int .i64 e.v] W (RetV (spotV (varL g.s g.frame e.v)) W)) := Lib.hid fun W hb hs hv =>
      sVar g.s g.frame e.v B W (hn0.1.below hb) hs hn0.2.2.1 hv
    have hvo := hi.one.1.2.2.2.2.1
    have hlen : lenOk e.l := hi.one.1.2.2.2.2.2
    unfold lenOk at hlen
    have HK0 := Lib.hid K0
    have HVO := Lib.hid hvo
    simp only [EmL.ecells, SpL.cells] at HIH HV
    unfold spotV at HV
    simp only [EmL.ecells, KE.cells] at b2 b3 hW0 ⊢
    have c0 := b2.cell 0
    have c1 := b2.cell 1
    have c2 := b2.cell 2
    have c3 := b2.cell 3
    have c4 := b2.cell 4
    have c5 := b2.cell 5
    have c6 := b2.cell 6
    have c7 := b2.cell 7
    simp at c0 c1 c2 c3 c4 c5 c6 c7
    have d0 := b3.cell 0
    have d1 := b3.cell 1
    have d2 := b3.cell 2
    have d3 := b3.cell 3
    have d4 := b3.cell 4
    have d5 := b3.cell 5
    simp at d0 d1 d2 d3 d4 d5
    have z2 := b2.lt
    have z3 := b3.lt
    have hBW' := Lib.hid hBW
    obtain ⟨K, hK⟩ : ∃ K : Int, (e.kind : Int) = K := ⟨_, rfl⟩
    rw [hK] at d0 hW0 ⊢
    have HKK := Lib.hid hK
    clear hi hn hB ih hall hfe hfl b2 b3 hi0 hn0 hRK HKQ K0 hvo hBW hK
    have hkc : (K = 2 ∨ K = 3) ∨ ((K == 2) = false ∧ (K == 3) = false ∧ ¬ (e.kind = 2 ∨ e.kind = 3)) := by
      have := HKK.out
      by_cases h : K = 2 ∨ K = 3
      · exact .inl h
      · refine .inr ⟨by simp; omega, by simp; omega, by omega⟩
    rcases hkc with hk | ⟨hk2, hk3, hkn⟩
    · have hkk : e.kind = 2 ∨ e.kind = 3 := by have := HKK.out; omega
      have hv := hvr hkk
      have HQ2 := HQ.out
      rw [if_pos hkk] at HQ2
      obtain ⟨vn, hvn⟩ : ∃ n : Nat, e.v = n := ⟨e.v.toNat, by omega⟩
      rw [hvn] at hW0 d4 HQ2 HV HVO ⊢
      obtain ⟨ι, F, i0', h0', hFb, hcl⟩ := fam_below W0
      haveI : Nonempty ι := ⟨i0'⟩
      have F0 : ∀ i, (F i).cell? ⟨w.heap.size, 0, none⟩ = some (.slice g.Av g.vars.length g.cv) := fun i => ((bcell (hFb i)).1 _ 0 z2).trans c0
      have FK : ∀ i, (F i).cell? ⟨w.heap.size + 1, 0, none⟩ = some (.int .u8 K) := fun i => ((bcell (hFb i)).1 _ 0 z3).trans d0
      have FV : ∀ i, (F i).cell? ⟨w.heap.size + 1, 4, none⟩ = some (.int .i64 vn) := fun i => ((bcell (hFb i)).1 _ 4 z3).trans d4
      clear hv hvr hvn HQ
      by_cases hvl : vn < g.vars.length
      · have hvI : ¬ (g.vars.length : Int) ≤ vn := by omega
        have hvN : ¬ g.vars.length ≤ vn := by omega
        obtain ⟨bv, ov, xv, hAv, hbv, hxv, hdim, v0, v1⟩ := var_at HN.out hvl
        have hbv0 : bv < W0.heap.size := by have := hBW'.out; omega
        have V1 : ∀ i, (F i).cell? ⟨bv, ov + vn * 2 + 1, none⟩ = some (.int .i64 xv.dim) := fun i => ((bcell (hFb i)).1 _ _ hbv0).trans v1
        rw [hAv] at F0 c0 hW0 HIH ⊢
        have hvI2 : (vn : Int) < g.vars.length := by omega
        have hbad : badB g e.kind vn = ((xv.dim == 0) != (e.kind == 2)) := by
          simp [badB, hvI, hxv]
        have HFB := Lib.hid hFb
        by_cases hbd : ((xv.dim == 0) != (e.kind == 2)) = true
        · obtain rfl : RK = (false, false) := by rw [HQ2, if_pos (by rw [hbad, hbd])]
          have hK2 : (e.kind == 2) = (K == 2) := by have := HKK.out; rw [Bool.eq_iff_iff]; simp; omega
          rw [hK2] at hbd
          clear hbad HQ2 hvl hxv hdim v0 v1 hAv HV hkk
          by_cases hd0 : xv.dim = 0
          · obtain rfl : K = 3 := by
              rcases hk with rfl | rfl
              · rw [hd0] at hbd; simp at hbd
              · rfl
            rw [hd0] at V1
            clear hd0 hbd hK2 hFb
            go_enter Tryd.func41, Tryd.ntmps41
            go_wp2
            refine wp_region_quiet_fam F i0' h0' (by kernel_rfl) (by kernel_rfl) ?_
            repeat (go_big_quiet_step (fail))
            refine wpQuiet_nil ?_
            intro i
            go_wp2
            go_ret2
            exact ⟨rfl, HK0.out.trans ((HFB.out i).mono HK0.out.size)⟩
          · have hd1 : (xv.dim == 0) = false := by simpa using hd0
            obtain rfl : K = 2 := by
              rcases hk with rfl | rfl
              · rfl
              · rw [hd1] at hbd; simp at hbd
            clear hd0 hbd hK2 hFb
            go_enter Tryd.func41, Tryd.ntmps41
            go_wp2
            refine wp_region_quiet_fam F i0' h0' (by kernel_rfl) (by kernel_rfl) ?_
            repeat (go_big_quiet_step (fail))
            refine wpQuiet_nil ?_
            intro i
            go_wp2
            go_ret2
            exact ⟨rfl, HK0.out.trans ((HFB.out i).mono HK0.out.size)⟩
        · have hK2 : (e.kind == 2) = (K == 2) := by have := HKK.out; rw [Bool.eq_iff_iff]; simp; omega
          have HQ3 : RK = knownL g (true, offB g vn) e.l := by rw [HQ2, if_neg (by rw [hbad]; exact hbd)]
          rw [hK2] at hbd
          have hof : offB g vn = match varL g.s g.frame vn with
            | none => false
            | some a => decide (wrap32 a = a) := rfl
          generalize varL g.s g.frame vn = sp at *
          have hcase : (K = 2 ∧ xv.dim = 0) ∨ (K = 3 ∧ (xv.dim == 0) = false) := by
            rcases hk with rfl | rfl
            · left
              refine ⟨rfl, ?_⟩
              simpa using hbd
            · right
              refine ⟨rfl, ?_⟩
              simpa using hbd
          obtain ⟨p0, hp0⟩ : ∃ p : Bool × Bool, p = (true, offB g vn) := ⟨_, rfl⟩
          have HP0 : Hid (RK = knownL g p0 e.l) := Lib.hid (by rw [HQ3, hp0])
          have hp1 : p0.1 = true := by rw [hp0]
          have hp2' : p0.2 = offB g vn := by rw [hp0]
          have HVi : Hid (∀ i, Calls Tryd.prog 70 #[.agg #[.slice g.s.Af g.s.fr.length g.s.cf, .slice g.s.A1 g.s.vat.length g.s.c1, .slice g.s.A2 g.s.vin.length g.s.c2, .slice g.s.A3 g.s.cat.length g.s.c3, .slice g.s.A4 g.s.cin.length g.s.c4], .int .i64 g.frame, .int .i64 vn] (F i) (RetV (.tuple #[.int .i64 (sp.getD 0), .bool sp.isSome]) (F i))) := Lib.hid fun i =>
            HV.out (F i) ((hFb i).mono hBW'.out) (Nat.le_trans hBW'.out (hFb i).size) HVO.out
          have F1 : ∀ i, (F i).cell? ⟨w.heap.size, 1, none⟩ = some (.slice g.s.Af g.s.fr.length g.s.cf) := fun i => ((bcell (hFb i)).1 _ 1 z2).trans c1
          have F2 : ∀ i, (F i).cell? ⟨w.heap.size, 2, none⟩ = some (.slice g.s.A1 g.s.vat.length g.s.c1) := fun i => ((bcell (hFb i)).1 _ 2 z2).trans c2
          have F3 : ∀ i, (F i).cell? ⟨w.heap.size, 3, none⟩ = some (.slice g.s.A2 g.s.vin.length g.s.c2) := fun i => ((bcell (hFb i)).1 _ 3 z2).trans c3
          have F4 : ∀ i, (F i).cell? ⟨w.heap.size, 4, none⟩ = some (.slice g.s.A3 g.s.cat.length g.s.c3) := fun i => ((bcell (hFb i)).1 _ 4 z2).trans c4
          have F5 : ∀ i, (F i).cell? ⟨w.heap.size, 5, none⟩ = some (.slice g.s.A4 g.s.cin.length g.s.c4) := fun i => ((bcell (hFb i)).1 _ 5 z2).trans c5
          have F6 : ∀ i, (F i).cell? ⟨w.heap.size, 6, none⟩ = some (.int .i64 g.frame) := fun i => ((bcell (hFb i)).1 _ 6 z2).trans c6
          have hspc : (sp = none ∧ offB g vn = false) ∨ (∃ a, sp = some a ∧ (wrap32 a == a) = true ∧ offB g vn = true) ∨ (∃ a, sp = some a ∧ (wrap32 a == a) = false ∧ offB g vn = false) := by
            cases sp with
            | none => exact .inl ⟨rfl, hof⟩
            | some a =>
              by_cases h : wrap32 a = a
              · exact .inr (.inl ⟨a, rfl, by simpa using h, by rw [hof]; simpa using h⟩)
              · exact .inr (.inr ⟨a, rfl, by simpa using h, by rw [hof]; simpa using h⟩)
          clear hof
          clear hbad HQ2 HQ3 hvl hxv hdim v0 v1 hAv HV hkk hK2 hbd hk hp0 hFb
          rcases hspc with ⟨rfl, ho⟩ | ⟨a, rfl, hwa, ho⟩ | ⟨a, rfl, hwa, ho⟩ <;> rcases hcase with ⟨rfl, hd⟩ | ⟨rfl, hd⟩
          all_goals
            rw [ho] at hp2'
            simp only [Option.getD_none, Option.getD_some, Option.isSome_none, Option.isSome_some] at HVi
            try rw [hd] at V1
            clear ho
            go_enter Tryd.func41, Tryd.ntmps41
            go_wp2
            refine wp_region_quiet_fam F i0' h0' (by kernel_rfl) (by kernel_rfl) ?_
            repeat (go_big_quiet_step (fail))
            refine wpQuiet_nil ?_
            intro i
            go_wp2_with first
              | (go_at_call 70; (with_reducible refine (HVi.out _).mono ?_); rintro e3 w3 ⟨rfl, hb3⟩
                 have KST := (HFB.out i).trans (hb3.mono (HFB.out i).size)
                 have e5 := ((bcell KST).1 _ 5 z3).trans d5
                 clear hb3)
            have hp2 := hp2'
            go_loopw [4, 5, 61] (fun a b i wr => ∃ k : Nat, k ≤ e.l.length ∧ a = .bool (knownL g p0 (e.l.take k)).1 ∧ b = .bool (knownL g p0 (e.l.take k)).2 ∧ i = .int .i64 k ∧ Hid (Below W0.heap.size W0 wr)) (fun _ _ i _ => e.l.length - (intOf i).toNat)
            case atStart => exact ⟨0, Nat.zero_le _, by rw [List.take_zero, knownL, hp1], by rw [List.take_zero, knownL, hp2]; try rw [w64_32, hwa], rfl, Lib.hid KST⟩
            case round =>
              obtain ⟨k, hk, rfl, rfl, rfl, HBW⟩ := hrel
              have hwr := HBW.out.size
              by_cases hlt : k < e.l.length
              · have hltI : (k : Int) < e.l.length := by omega
                have hbW : Below B W0 wr := HBW.out.mono hBW'.out
                obtain ⟨b, off, x, hA, hb, hx, hin, r0, r1, r2, r3, r4, r5⟩ := kes_six (HI.out.parts.below hbW) hlt
                have a0 := (bcell HBW.out).1
                have g0 := (a0 _ 0 z2).trans c0
                have g1 := (a0 _ 1 z2).trans c1
                have g2 := (a0 _ 2 z2).trans c2
                have g3 := (a0 _ 3 z2).trans c3
                have g4 := (a0 _ 4 z2).trans c4
                have g5 := (a0 _ 5 z2).trans c5
                have g6 := (a0 _ 6 z2).trans c6
                have g7 := (a0 _ 7 z2).trans c7
                have zz : w.heap.size < wr.heap.size := by omega
                obtain ⟨Wc, hWc⟩ : ∃ W, wr.alloc (.cells x.cells 36) = W := ⟨_, rfl⟩
                have Kc : Below wr.heap.size wr Wc := by rw [← hWc]; exact (Below.refl _ _).alloc (Nat.le_refl _) _
                have b9 : Blk Wc wr.heap.size 36 x.cells := by rw [← hWc]; exact Blk.new _ _ _
                have bq : B ≤ wr.heap.size := by have := hBW'.out; omega
                have HC := Lib.hid (HIH.out x (List.mem_of_getElem? hx) Wc (hbW.trans (Kc.mono bq)) (Nat.le_trans bq Kc.size))
                have HT : Hid (knownL g p0 (e.l.take (k + 1)) = ((knownL g p0 (e.l.take k)).1 && (knownE g x).1, (knownL g p0 (e.l.take k)).2 && (knownE g x).2)) := Lib.hid (by rw [List.take_add_one, hx]; exact knownL_snoc g _ p0 x)
                have HKc := Lib.hid Kc
                simp only [KE.cells] at hWc HC b9
                have aa0 := (bcell Kc).1
                have g0 := (aa0 _ 0 zz).trans g0
                have g1 := (aa0 _ 1 zz).trans g1
                have g2 := (aa0 _ 2 zz).trans g2
                have g3 := (aa0 _ 3 zz).trans g3
                have g4 := (aa0 _ 4 zz).trans g4
                have g5 := (aa0 _ 5 zz).trans g5
                have g6 := (aa0 _ 6 zz).trans g6
                have g7 := (aa0 _ 7 zz).trans g7
                have q0 := b9.cell 0
                have q1 := b9.cell 1
                have q2 := b9.cell 2
                have q3 := b9.cell 3
                have q4 := b9.cell 4
                have q5 := b9.cell 5
                simp at q0 q1 q2 q3 q4 q5
                rw [hA]
                generalize (knownL g p0 (e.l.take k)).1 = s1 at *
                generalize (knownL g p0 (e.l.take k)).2 = s2 at *
                generalize (knownE g x).1 = u1 at *
                generalize (knownE g x).2 = u2 at *
                clear hA hx hin Kc a0 aa0 hbW b9 bq
                cases s1 <;> cases s2
                all_goals
                  go_wp2_with first
                    | (go_at_call 41; (with_reducible refine HC.out.mono ?_); rintro e3 w3 ⟨rfl, hb3⟩
                       have K3 := Lib.hid hb3
                       clear hb3)
                  go_roundw
                  case rel => exact ⟨k + 1, by omega, by rw [HT.out]; rfl, by rw [HT.out]; rfl, by go_num, Lib.hid ((HBW.out.trans (HKc.out.mono hwr)).trans (K3.out.mono (Nat.le_trans hwr HKc.out.size)))⟩
                  case measure => simp [intOf]; omega
              · have hltI : ¬ (k : Int) < e.l.length := by omega
                obtain rfl : k = e.l.length := by omega
                rw [List.take_of_length_le (Nat.le_refl _)]
                go_wp2
                go_ret2
                exact ⟨by rw [HP0.out]; rfl, HK0.out.trans (HBW.out.mono HK0.out.size)⟩
      · have hvI : (g.vars.length : Int) ≤ vn := by omega
        have hvN : g.vars.length ≤ vn := by omega
        obtain rfl : RK = (false, false) := by rw [HQ2, if_pos (by simp [badB, hvI])]
        clear HQ2 hvl
        rcases hk with rfl | rfl
        all_goals
          go_enter Tryd.func41, Tryd.ntmps41
          go_wp2
          refine wp_region_quiet_fam F i0' h0' (by kernel_rfl) (by kernel_rfl) ?_
          repeat (go_big_quiet_step (fail))
          refine wpQuiet_nil ?_
          intro i
          go_wp2
          go_ret2
          exact ⟨rfl, HK0.out.trans ((hFb i).mono HK0.out.size)⟩
    · obtain ⟨p0, hp0⟩ : ∃ p : Bool × Bool, p = (true, true) := ⟨_, rfl⟩
      have HP0 : Hid (RK = knownL g p0 e.l) := Lib.hid (by rw [HQ.out, if_neg hkn, hp0])
      have hp1 : p0.1 = true := by rw [hp0]
      have hp2 : p0.2 = true := by rw [hp0]
      have KST : Below W0.heap.size W0 W0 := Below.refl _ _
      clear hkn HQ hvr HV hp0
      go_enter Tryd.func41, Tryd.ntmps41
      go_wp2
      go_loopw [4, 5, 61] (fun a b i wr => ∃ k : Nat, k ≤ e.l.length ∧ a = .bool (knownL g p0 (e.l.take k)).1 ∧ b = .bool (knownL g p0 (e.l.take k)).2 ∧ i = .int .i64 k ∧ Hid (Below W0.heap.size W0 wr)) (fun _ _ i _ => e.l.length - (intOf i).toNat)
      case atStart => exact ⟨0, Nat.zero_le _, by rw [List.take_zero, knownL, hp1], by rw [List.take_zero, knownL, hp2], rfl, Lib.hid KST⟩
      case round =>
        obtain ⟨k, hk, rfl, rfl, rfl, HBW⟩ := hrel
        have hwr := HBW.out.size
        by_cases hlt : k < e.l.length
        · have hltI : (k : Int) < e.l.length := by omega
          have hbW : Below B W0 wr := HBW.out.mono hBW'.out
          obtain ⟨b, off, x, hA, hb, hx, hin, r0, r1, r2, r3, r4, r5⟩ := kes_six (HI.out.parts.below hbW) hlt
          have a0 := (bcell HBW.out).1
          have g0 := (a0 _ 0 z2).trans c0
          have g1 := (a0 _ 1 z2).trans c1
          have g2 := (a0 _ 2 z2).trans c2
          have g3 := (a0 _ 3 z2).trans c3
          have g4 := (a0 _ 4 z2).trans c4
          have g5 := (a0 _ 5 z2).trans c5
          have g6 := (a0 _ 6 z2).trans c6
          have g7 := (a0 _ 7 z2).trans c7
          have zz : w.heap.size < wr.heap.size := by omega
          obtain ⟨Wc, hWc⟩ : ∃ W, wr.alloc (.cells x.cells 36) = W := ⟨_, rfl⟩
          have Kc : Below wr.heap.size wr Wc := by rw [← hWc]; exact (Below.refl _ _).alloc (Nat.le_refl _) _
          have b9 : Blk Wc wr.heap.size 36 x.cells := by rw [← hWc]; exact Blk.new _ _ _
          have bq : B ≤ wr.heap.size := by have := hBW'.out; omega
          have HC := Lib.hid (HIH.out x (List.mem_of_getElem? hx) Wc (hbW.trans (Kc.mono bq)) (Nat.le_trans bq Kc.size))
          have HT : Hid (knownL g p0 (e.l.take (k + 1)) = ((knownL g p0 (e.l.take k)).1 && (knownE g x).1, (knownL g p0 (e.l.take k)).2 && (knownE g x).2)) := Lib.hid (by rw [List.take_add_one, hx]; exact knownL_snoc g _ p0 x)
          have HKc := Lib.hid Kc
          simp only [KE.cells] at hWc HC b9
          have aa0 := (bcell Kc).1
          have g0 := (aa0 _ 0 zz).trans g0
          have g1 := (aa0 _ 1 zz).trans g1
          have g2 := (aa0 _ 2 zz).trans g2
          have g3 := (aa0 _ 3 zz).trans g3
          have g4 := (aa0 _ 4 zz).trans g4
          have g5 := (aa0 _ 5 zz).trans g5
          have g6 := (aa0 _ 6 zz).trans g6
          have g7 := (aa0 _ 7 zz).trans g7
          have q0 := b9.cell 0
          have q1 := b9.cell 1
          have q2 := b9.cell 2
          have q3 := b9.cell 3
          have q4 := b9.cell 4
          have q5 := b9.cell 5
          simp at q0 q1 q2 q3 q4 q5
          rw [hA]
          generalize (knownL g p0 (e.l.take k)).1 = s1 at *
          generalize (knownL g p0 (e.l.take k)).2 = s2 at *
          generalize (knownE g x).1 = u1 at *
          generalize (knownE g x).2 = u2 at *
          clear hA hx hin Kc a0 aa0 hbW b9 bq
          cases s1 <;> cases s2
          all_goals
            go_wp2_with first
              | (go_at_call 41; (with_reducible refine HC.out.mono ?_); rintro e3 w3 ⟨rfl, hb3⟩
                 have K3 := Lib.hid hb3
                 clear hb3)
            go_roundw
            case rel => exact ⟨k + 1, by omega, by rw [HT.out]; rfl, by rw [HT.out]; rfl, by go_num, Lib.hid ((HBW.out.trans (HKc.out.mono hwr)).trans (K3.out.mono (Nat.le_trans hwr HKc.out.size)))⟩
            case measure => simp [intOf]; omega
        · have hltI : ¬ (k : Int) < e.l.length := by omega
          obtain rfl : k = e.l.length := by omega
          rw [List.take_of_length_le (Nat.le_refl _)]
          go_wp2
          go_ret2
          exact ⟨by rw [HP0.out]; rfl, HK0.out.trans (HBW.out.mono HK0.out.size)⟩
end Go.Proofs.YtbefmlioampgcaaDoor
