/- Texts that belong together, joined: what each one holds is told ahead of it. -/
import Derived.Test.YtbefmlioampgcaaGreatDoorHK19
import Derived.Test.YtbefmlioampgcaaGreatDoorHK16
set_option linter.unusedVariables false
set_option linter.unusedSimpArgs false
/- Whether the variables of an expression exist and have offsets: known, walked. -/
namespace Go.Proofs.YtbefmlioampgcaaGreatDoor
open Go.RowKit
set_option linter.unusedVariables false
set_option linter.unusedSimpArgs false

def offB (g : EmL) (v : Int) : Bool := match varL g.s g.frame v with
  | none => false
  | some a => decide (wrap32 a = a)
/-- Variable v is not there, or not as the kind wants it. -/
def badB (g : EmL) (k : Nat) (v : Int) : Bool := decide ((g.vars.length : Int) ≤ v) || (((g.vars.getD v.toNat ⟨0, 0⟩).dim == 0) != (k == 2))
mutual
def knownE (g : EmL) : KE → Bool × Bool
  | ⟨k, _, _, _, v, _, _, l⟩ => if k = 2 ∨ k = 3 then (if badB g k v then (false, false) else knownL g (true, offB g v) l) else knownL g (true, true) l
def knownL (g : EmL) (p : Bool × Bool) : List KE → Bool × Bool
  | [] => p
  | e :: l => knownL g (p.1 && (knownE g e).1, p.2 && (knownE g e).2) l
end
theorem knownE_eq (g : EmL) (e : KE) : knownE g e = if e.kind = 2 ∨ e.kind = 3 then (if badB g e.kind e.v then (false, false) else knownL g (true, offB g e.v) e.l) else knownL g (true, true) e.l := by
  obtain ⟨k, o, t, n, v, A, c, l⟩ := e
  rw [knownE]
theorem knownL_snoc (g : EmL) : ∀ (l : List KE) (p : Bool × Bool) (x : KE), knownL g p (l ++ [x]) = ((knownL g p l).1 && (knownE g x).1, (knownL g p l).2 && (knownE g x).2)
  | [], p, x => by rw [List.nil_append, knownL, knownL, knownL]
  | y :: l, p, x => by rw [List.cons_append, knownL, knownL]; exact knownL_snoc g l _ x
def EmL.ecells (g : EmL) : Array Value :=
  #[.slice g.Av g.vars.length g.cv, .slice g.s.Af g.s.fr.length g.s.cf, .slice g.s.A1 g.s.vat.length g.s.c1, .slice g.s.A2 g.s.vin.length g.s.c2, .slice g.s.A3 g.s.cat.length g.s.c3, .slice g.s.A4 g.s.cin.length g.s.c4, .int .i64 g.frame, .string (strB g.label)]
theorem w64_32 (a : Int) : wrap64 (wrap32 a) = wrap32 a := by unfold wrap64 wrap32; omega
def KnOk (g : EmL) (e : KE) : Prop := e.all (fun x => fieldsB x = true) → ∀ (B : Nat) (w : World), e.In w B → EnvIn g w B → B ≤ w.heap.size → Calls Tryz.prog 21 #[.agg g.ecells, .agg e.cells] w (RetV (.tuple #[.bool (knownE g e).1, .bool (knownE g e).2]) w)
set_option maxRecDepth 100000 in
set_option maxHeartbeats 8000000 in
theorem gKnown (g : EmL) (e : KE) : KnOk g e := by
  induction e using KE.ind with
  | h e ih =>
    intro hall B w hi hn hB
    obtain ⟨hfe, hfl⟩ := KE.all_iff.1 hall
    obtain ⟨W0, hW0⟩ : ∃ W, (w.alloc (.cells g.ecells 64)).alloc (.cells e.cells 27) = W := ⟨_, rfl⟩
    have K0 : Below w.heap.size w W0 := by rw [← hW0]; exact below_2 w _ _
    have b2 : Blk W0 w.heap.size 64 g.ecells := by rw [← hW0]; exact (Blk.new w _ _).alloc _
    have b3 : Blk W0 (w.heap.size + 1) 27 e.cells := by rw [← hW0]; exact blk_2 w _ _ _
    have hi0 := hi.below (K0.mono hB)
    have hn0 := hn.below (K0.mono hB)
    have hBW : B ≤ W0.heap.size := Nat.le_trans hB K0.size
    have HKQ := knownE_eq g e
    have hvr : e.kind = 2 ∨ e.kind = 3 → 0 ≤ e.v ∧ e.v < 256 := fun hk => by
      unfold fieldsB at hfe
      rcases hk with hk | hk
      all_goals
        rw [hk] at hfe
        have := of_decide_eq_true hfe
        omega
    obtain ⟨RK, hRK⟩ : ∃ x, knownE g e = x := ⟨_, rfl⟩
    rw [hRK] at HKQ ⊢
    have HQ := Lib.hid HKQ
    have HB2 := Lib.hid b2
    have HB3 := Lib.hid b3
    have HI := Lib.hid hi0
    have HN := Lib.hid hn0
    have HIH : Hid (∀ x ∈ e.l, ∀ W, Below B W0 W → B ≤ W.heap.size → Calls Tryz.prog 21 #[.agg g.ecells, .agg x.cells] W (RetV (.tuple #[.bool (knownE g x).1, .bool (knownE g x).2]) W)) := Lib.hid fun x hx W hb hs =>
      ih x hx (hfl x hx) B W ((hi0.part hx).below hb) (hn0.below hb) hs
    have HV : Hid (∀ W, Below B W0 W → B ≤ W.heap.size → i64ok e.v → Calls Tryz.prog 39 #[.agg g.s.cells, .int .i64 g.frame, .int .i64 e.v] W (RetV (spotV (varL g.s g.frame e.v)) W)) := Lib.hid fun W hb hs hv =>
      sVar g.s g.frame e.v B W (hn0.1.below hb) hs hn0.2.2.1 hv
    have hvo := hi.one.1.2.2.2.2.1
    have hlen : lenOk e.l := hi.one.1.2.2.2.2.2
    unfold lenOk at hlen
    have HK0 := Lib.hid K0
    have HVO := Lib.hid hvo
    simp only [EmL.ecells, SpL.cells] at HIH HV
    unfold spotV at HV
    simp only [EmL.ecells, KE.cells] at b2 b3 hW0 ⊢
    have c0 := b2.cell 0
    have c1 := b2.cell 1
    have c2 := b2.cell 2
    have c3 := b2.cell 3
    have c4 := b2.cell 4
    have c5 := b2.cell 5
    have c6 := b2.cell 6
    have c7 := b2.cell 7
    simp at c0 c1 c2 c3 c4 c5 c6 c7
    have d0 := b3.cell 0
    have d1 := b3.cell 1
    have d2 := b3.cell 2
    have d3 := b3.cell 3
    have d4 := b3.cell 4
    have d5 := b3.cell 5
    simp at d0 d1 d2 d3 d4 d5
    have z2 := b2.lt
    have z3 := b3.lt
    have hBW' := Lib.hid hBW
    obtain ⟨K, hK⟩ : ∃ K : Int, (e.kind : Int) = K := ⟨_, rfl⟩
    rw [hK] at d0 hW0 ⊢
    have HKK := Lib.hid hK
    clear hi hn hB ih hall hfe hfl b2 b3 hi0 hn0 hRK HKQ K0 hvo hBW hK
    have hkc : (K = 2 ∨ K = 3) ∨ ((K == 2) = false ∧ (K == 3) = false ∧ ¬ (e.kind = 2 ∨ e.kind = 3)) := by
      have := HKK.out
      by_cases h : K = 2 ∨ K = 3
      · exact .inl h
      · refine .inr ⟨by simp; omega, by simp; omega, by omega⟩
    rcases hkc with hk | ⟨hk2, hk3, hkn⟩
    · have hkk : e.kind = 2 ∨ e.kind = 3 := by have := HKK.out; omega
      have hv := hvr hkk
      have HQ2 := HQ.out
      rw [if_pos hkk] at HQ2
      obtain ⟨vn, hvn⟩ : ∃ n : Nat, e.v = n := ⟨e.v.toNat, by omega⟩
      rw [hvn] at hW0 d4 HQ2 HV HVO ⊢
      obtain ⟨ι, F, i0', h0', hFb, hcl⟩ := fam_below W0
      haveI : Nonempty ι := ⟨i0'⟩
      have F0 : ∀ i, (F i).cell? ⟨w.heap.size, 0, none⟩ = some (.slice g.Av g.vars.length g.cv) := fun i => ((bcell (hFb i)).1 _ 0 z2).trans c0
      have FK : ∀ i, (F i).cell? ⟨w.heap.size + 1, 0, none⟩ = some (.int .u8 K) := fun i => ((bcell (hFb i)).1 _ 0 z3).trans d0
      have FV : ∀ i, (F i).cell? ⟨w.heap.size + 1, 4, none⟩ = some (.int .i64 vn) := fun i => ((bcell (hFb i)).1 _ 4 z3).trans d4
      clear hv hvr hvn HQ
      by_cases hvl : vn < g.vars.length
      · have hvI : ¬ (g.vars.length : Int) ≤ vn := by omega
        have hvN : ¬ g.vars.length ≤ vn := by omega
        obtain ⟨bv, ov, xv, hAv, hbv, hxv, hdim, v0, v1⟩ := var_at HN.out hvl
        have hbv0 : bv < W0.heap.size := by have := hBW'.out; omega
        have V1 : ∀ i, (F i).cell? ⟨bv, ov + vn * 2 + 1, none⟩ = some (.int .i64 xv.dim) := fun i => ((bcell (hFb i)).1 _ _ hbv0).trans v1
        rw [hAv] at F0 c0 hW0 HIH ⊢
        have hvI2 : (vn : Int) < g.vars.length := by omega
        have hbad : badB g e.kind vn = ((xv.dim == 0) != (e.kind == 2)) := by
          simp [badB, hvI, hxv]
        have HFB := Lib.hid hFb
        by_cases hbd : ((xv.dim == 0) != (e.kind == 2)) = true
        · obtain rfl : RK = (false, false) := by rw [HQ2, if_pos (by rw [hbad, hbd])]
          have hK2 : (e.kind == 2) = (K == 2) := by have := HKK.out; rw [Bool.eq_iff_iff]; simp; omega
          rw [hK2] at hbd
          clear hbad HQ2 hvl hxv hdim v0 v1 hAv HV hkk
          by_cases hd0 : xv.dim = 0
          · obtain rfl : K = 3 := by
              rcases hk with rfl | rfl
              · rw [hd0] at hbd; simp at hbd
              · rfl
            rw [hd0] at V1
            clear hd0 hbd hK2 hFb
            go_enter Tryz.func21, Tryz.ntmps21
            go_wp2
            refine wp_region_quiet_fam F i0' h0' (by kernel_rfl) (by kernel_rfl) ?_
            repeat (go_big_quiet_step (fail))
            refine wpQuiet_nil ?_
            intro i
            go_wp2
            go_ret2
            exact ⟨rfl, HK0.out.trans ((HFB.out i).mono HK0.out.size)⟩
          · have hd1 : (xv.dim == 0) = false := by simpa using hd0
            obtain rfl : K = 2 := by
              rcases hk with rfl | rfl
              · rfl
              · rw [hd1] at hbd; simp at hbd
            clear hd0 hbd hK2 hFb
            go_enter Tryz.func21, Tryz.ntmps21
            go_wp2
            refine wp_region_quiet_fam F i0' h0' (by kernel_rfl) (by kernel_rfl) ?_
            repeat (go_big_quiet_step (fail))
            refine wpQuiet_nil ?_
            intro i
            go_wp2
            go_ret2
            exact ⟨rfl, HK0.out.trans ((HFB.out i).mono HK0.out.size)⟩
        · have hK2 : (e.kind == 2) = (K == 2) := by have := HKK.out; rw [Bool.eq_iff_iff]; simp; omega
          have HQ3 : RK = knownL g (true, offB g vn) e.l := by rw [HQ2, if_neg (by rw [hbad]; exact hbd)]
          rw [hK2] at hbd
          have hof : offB g vn = match varL g.s g.frame vn with
            | none => false
            | some a => decide (wrap32 a = a) := rfl
          generalize varL g.s g.frame vn = sp at *
          have hcase : (K = 2 ∧ xv.dim = 0) ∨ (K = 3 ∧ (xv.dim == 0) = false) := by
            rcases hk with rfl | rfl
            · left
              refine ⟨rfl, ?_⟩
              simpa using hbd
            · right
              refine ⟨rfl, ?_⟩
              simpa using hbd
          obtain ⟨p0, hp0⟩ : ∃ p : Bool × Bool, p = (true, offB g vn) := ⟨_, rfl⟩
          have HP0 : Hid (RK = knownL g p0 e.l) := Lib.hid (by rw [HQ3, hp0])
          have hp1 : p0.1 = true := by rw [hp0]
          have hp2' : p0.2 = offB g vn := by rw [hp0]
          have HVi : Hid (∀ i, Calls Tryz.prog 39 #[.agg #[.slice g.s.Af g.s.fr.length g.s.cf, .slice g.s.A1 g.s.vat.length g.s.c1, .slice g.s.A2 g.s.vin.length g.s.c2, .slice g.s.A3 g.s.cat.length g.s.c3, .slice g.s.A4 g.s.cin.length g.s.c4], .int .i64 g.frame, .int .i64 vn] (F i) (RetV (.tuple #[.int .i64 (sp.getD 0), .bool sp.isSome]) (F i))) := Lib.hid fun i =>
            HV.out (F i) ((hFb i).mono hBW'.out) (Nat.le_trans hBW'.out (hFb i).size) HVO.out
          have F1 : ∀ i, (F i).cell? ⟨w.heap.size, 1, none⟩ = some (.slice g.s.Af g.s.fr.length g.s.cf) := fun i => ((bcell (hFb i)).1 _ 1 z2).trans c1
          have F2 : ∀ i, (F i).cell? ⟨w.heap.size, 2, none⟩ = some (.slice g.s.A1 g.s.vat.length g.s.c1) := fun i => ((bcell (hFb i)).1 _ 2 z2).trans c2
          have F3 : ∀ i, (F i).cell? ⟨w.heap.size, 3, none⟩ = some (.slice g.s.A2 g.s.vin.length g.s.c2) := fun i => ((bcell (hFb i)).1 _ 3 z2).trans c3
          have F4 : ∀ i, (F i).cell? ⟨w.heap.size, 4, none⟩ = some (.slice g.s.A3 g.s.cat.length g.s.c3) := fun i => ((bcell (hFb i)).1 _ 4 z2).trans c4
          have F5 : ∀ i, (F i).cell? ⟨w.heap.size, 5, none⟩ = some (.slice g.s.A4 g.s.cin.length g.s.c4) := fun i => ((bcell (hFb i)).1 _ 5 z2).trans c5
          have F6 : ∀ i, (F i).cell? ⟨w.heap.size, 6, none⟩ = some (.int .i64 g.frame) := fun i => ((bcell (hFb i)).1 _ 6 z2).trans c6
          have hspc : (sp = none ∧ offB g vn = false) ∨ (∃ a, sp = some a ∧ (wrap32 a == a) = true ∧ offB g vn = true) ∨ (∃ a, sp = some a ∧ (wrap32 a == a) = false ∧ offB g vn = false) := by
            cases sp with
            | none => exact .inl ⟨rfl, hof⟩
            | some a =>
              by_cases h : wrap32 a = a
              · exact .inr (.inl ⟨a, rfl, by simpa using h, by rw [hof]; simpa using h⟩)
              · exact .inr (.inr ⟨a, rfl, by simpa using h, by rw [hof]; simpa using h⟩)
          clear hof
          clear hbad HQ2 HQ3 hvl hxv hdim v0 v1 hAv HV hkk hK2 hbd hk hp0 hFb
          rcases hspc with ⟨rfl, ho⟩ | ⟨a, rfl, hwa, ho⟩ | ⟨a, rfl, hwa, ho⟩ <;> rcases hcase with ⟨rfl, hd⟩ | ⟨rfl, hd⟩
          all_goals
            rw [ho] at hp2'
            simp only [Option.getD_none, Option.getD_some, Option.isSome_none, Option.isSome_some] at HVi
            try rw [hd] at V1
            clear ho
            go_enter Tryz.func21, Tryz.ntmps21
            go_wp2
            refine wp_region_quiet_fam F i0' h0' (by kernel_rfl) (by kernel_rfl) ?_
            repeat (go_big_quiet_step (fail))
            refine wpQuiet_nil ?_
            intro i
            go_wp2_with first
              | (go_at_call 39; (with_reducible refine (HVi.out _).mono ?_); rintro e3 w3 ⟨rfl, hb3⟩
                 have KST := (HFB.out i).trans (hb3.mono (HFB.out i).size)
                 have e5 := ((bcell KST).1 _ 5 z3).trans d5
                 clear hb3)
            have hp2 := hp2'
            go_loopw [4, 5, 61] (fun a b i wr => ∃ k : Nat, k ≤ e.l.length ∧ a = .bool (knownL g p0 (e.l.take k)).1 ∧ b = .bool (knownL g p0 (e.l.take k)).2 ∧ i = .int .i64 k ∧ Hid (Below W0.heap.size W0 wr)) (fun _ _ i _ => e.l.length - (intOf i).toNat)
            case atStart => exact ⟨0, Nat.zero_le _, by rw [List.take_zero, knownL, hp1], by rw [List.take_zero, knownL, hp2]; try rw [w64_32, hwa], rfl, Lib.hid KST⟩
            case round =>
              obtain ⟨k, hk, rfl, rfl, rfl, HBW⟩ := hrel
              have hwr := HBW.out.size
              by_cases hlt : k < e.l.length
              · have hltI : (k : Int) < e.l.length := by omega
                have hbW : Below B W0 wr := HBW.out.mono hBW'.out
                obtain ⟨b, off, x, hA, hb, hx, hin, r0, r1, r2, r3, r4, r5⟩ := kes_six (HI.out.parts.below hbW) hlt
                have a0 := (bcell HBW.out).1
                have g0 := (a0 _ 0 z2).trans c0
                have g1 := (a0 _ 1 z2).trans c1
                have g2 := (a0 _ 2 z2).trans c2
                have g3 := (a0 _ 3 z2).trans c3
                have g4 := (a0 _ 4 z2).trans c4
                have g5 := (a0 _ 5 z2).trans c5
                have g6 := (a0 _ 6 z2).trans c6
                have g7 := (a0 _ 7 z2).trans c7
                have zz : w.heap.size < wr.heap.size := by omega
                obtain ⟨Wc, hWc⟩ : ∃ W, wr.alloc (.cells x.cells 27) = W := ⟨_, rfl⟩
                have Kc : Below wr.heap.size wr Wc := by rw [← hWc]; exact (Below.refl _ _).alloc (Nat.le_refl _) _
                have b9 : Blk Wc wr.heap.size 27 x.cells := by rw [← hWc]; exact Blk.new _ _ _
                have bq : B ≤ wr.heap.size := by have := hBW'.out; omega
                have HC := Lib.hid (HIH.out x (List.mem_of_getElem? hx) Wc (hbW.trans (Kc.mono bq)) (Nat.le_trans bq Kc.size))
                have HT : Hid (knownL g p0 (e.l.take (k + 1)) = ((knownL g p0 (e.l.take k)).1 && (knownE g x).1, (knownL g p0 (e.l.take k)).2 && (knownE g x).2)) := Lib.hid (by rw [List.take_add_one, hx]; exact knownL_snoc g _ p0 x)
                have HKc := Lib.hid Kc
                simp only [KE.cells] at hWc HC b9
                have aa0 := (bcell Kc).1
                have g0 := (aa0 _ 0 zz).trans g0
                have g1 := (aa0 _ 1 zz).trans g1
                have g2 := (aa0 _ 2 zz).trans g2
                have g3 := (aa0 _ 3 zz).trans g3
                have g4 := (aa0 _ 4 zz).trans g4
                have g5 := (aa0 _ 5 zz).trans g5
                have g6 := (aa0 _ 6 zz).trans g6
                have g7 := (aa0 _ 7 zz).trans g7
                have q0 := b9.cell 0
                have q1 := b9.cell 1
                have q2 := b9.cell 2
                have q3 := b9.cell 3
                have q4 := b9.cell 4
                have q5 := b9.cell 5
                simp at q0 q1 q2 q3 q4 q5
                rw [hA]
                generalize (knownL g p0 (e.l.take k)).1 = s1 at *
                generalize (knownL g p0 (e.l.take k)).2 = s2 at *
                generalize (knownE g x).1 = u1 at *
                generalize (knownE g x).2 = u2 at *
                clear hA hx hin Kc a0 aa0 hbW b9 bq
                cases s1 <;> cases s2
                all_goals
                  go_wp2_with first
                    | (go_at_call 21; (with_reducible refine HC.out.mono ?_); rintro e3 w3 ⟨rfl, hb3⟩
                       have K3 := Lib.hid hb3
                       clear hb3)
                  go_roundw
                  case rel => exact ⟨k + 1, by omega, by rw [HT.out]; rfl, by rw [HT.out]; rfl, by go_num, Lib.hid ((HBW.out.trans (HKc.out.mono hwr)).trans (K3.out.mono (Nat.le_trans hwr HKc.out.size)))⟩
                  case measure => simp [intOf]; omega
              · have hltI : ¬ (k : Int) < e.l.length := by omega
                obtain rfl : k = e.l.length := by omega
                rw [List.take_of_length_le (Nat.le_refl _)]
                go_wp2
                go_ret2
                exact ⟨by rw [HP0.out]; rfl, HK0.out.trans (HBW.out.mono HK0.out.size)⟩
      · have hvI : (g.vars.length : Int) ≤ vn := by omega
        have hvN : g.vars.length ≤ vn := by omega
        obtain rfl : RK = (false, false) := by rw [HQ2, if_pos (by simp [badB, hvI])]
        clear HQ2 hvl
        rcases hk with rfl | rfl
        all_goals
          go_enter Tryz.func21, Tryz.ntmps21
          go_wp2
          refine wp_region_quiet_fam F i0' h0' (by kernel_rfl) (by kernel_rfl) ?_
          repeat (go_big_quiet_step (fail))
          refine wpQuiet_nil ?_
          intro i
          go_wp2
          go_ret2
          exact ⟨rfl, HK0.out.trans ((hFb i).mono HK0.out.size)⟩
    · obtain ⟨p0, hp0⟩ : ∃ p : Bool × Bool, p = (true, true) := ⟨_, rfl⟩
      have HP0 : Hid (RK = knownL g p0 e.l) := Lib.hid (by rw [HQ.out, if_neg hkn, hp0])
      have hp1 : p0.1 = true := by rw [hp0]
      have hp2 : p0.2 = true := by rw [hp0]
      have KST : Below W0.heap.size W0 W0 := Below.refl _ _
      clear hkn HQ hvr HV hp0
      go_enter Tryz.func21, Tryz.ntmps21
      go_wp2
      go_loopw [4, 5, 61] (fun a b i wr => ∃ k : Nat, k ≤ e.l.length ∧ a = .bool (knownL g p0 (e.l.take k)).1 ∧ b = .bool (knownL g p0 (e.l.take k)).2 ∧ i = .int .i64 k ∧ Hid (Below W0.heap.size W0 wr)) (fun _ _ i _ => e.l.length - (intOf i).toNat)
      case atStart => exact ⟨0, Nat.zero_le _, by rw [List.take_zero, knownL, hp1], by rw [List.take_zero, knownL, hp2], rfl, Lib.hid KST⟩
      case round =>
        obtain ⟨k, hk, rfl, rfl, rfl, HBW⟩ := hrel
        have hwr := HBW.out.size
        by_cases hlt : k < e.l.length
        · have hltI : (k : Int) < e.l.length := by omega
          have hbW : Below B W0 wr := HBW.out.mono hBW'.out
          obtain ⟨b, off, x, hA, hb, hx, hin, r0, r1, r2, r3, r4, r5⟩ := kes_six (HI.out.parts.below hbW) hlt
          have a0 := (bcell HBW.out).1
          have g0 := (a0 _ 0 z2).trans c0
          have g1 := (a0 _ 1 z2).trans c1
          have g2 := (a0 _ 2 z2).trans c2
          have g3 := (a0 _ 3 z2).trans c3
          have g4 := (a0 _ 4 z2).trans c4
          have g5 := (a0 _ 5 z2).trans c5
          have g6 := (a0 _ 6 z2).trans c6
          have g7 := (a0 _ 7 z2).trans c7
          have zz : w.heap.size < wr.heap.size := by omega
          obtain ⟨Wc, hWc⟩ : ∃ W, wr.alloc (.cells x.cells 27) = W := ⟨_, rfl⟩
          have Kc : Below wr.heap.size wr Wc := by rw [← hWc]; exact (Below.refl _ _).alloc (Nat.le_refl _) _
          have b9 : Blk Wc wr.heap.size 27 x.cells := by rw [← hWc]; exact Blk.new _ _ _
          have bq : B ≤ wr.heap.size := by have := hBW'.out; omega
          have HC := Lib.hid (HIH.out x (List.mem_of_getElem? hx) Wc (hbW.trans (Kc.mono bq)) (Nat.le_trans bq Kc.size))
          have HT : Hid (knownL g p0 (e.l.take (k + 1)) = ((knownL g p0 (e.l.take k)).1 && (knownE g x).1, (knownL g p0 (e.l.take k)).2 && (knownE g x).2)) := Lib.hid (by rw [List.take_add_one, hx]; exact knownL_snoc g _ p0 x)
          have HKc := Lib.hid Kc
          simp only [KE.cells] at hWc HC b9
          have aa0 := (bcell Kc).1
          have g0 := (aa0 _ 0 zz).trans g0
          have g1 := (aa0 _ 1 zz).trans g1
          have g2 := (aa0 _ 2 zz).trans g2
          have g3 := (aa0 _ 3 zz).trans g3
          have g4 := (aa0 _ 4 zz).trans g4
          have g5 := (aa0 _ 5 zz).trans g5
          have g6 := (aa0 _ 6 zz).trans g6
          have g7 := (aa0 _ 7 zz).trans g7
          have q0 := b9.cell 0
          have q1 := b9.cell 1
          have q2 := b9.cell 2
          have q3 := b9.cell 3
          have q4 := b9.cell 4
          have q5 := b9.cell 5
          simp at q0 q1 q2 q3 q4 q5
          rw [hA]
          generalize (knownL g p0 (e.l.take k)).1 = s1 at *
          generalize (knownL g p0 (e.l.take k)).2 = s2 at *
          generalize (knownE g x).1 = u1 at *
          generalize (knownE g x).2 = u2 at *
          clear hA hx hin Kc a0 aa0 hbW b9 bq
          cases s1 <;> cases s2
          all_goals
            go_wp2_with first
              | (go_at_call 21; (with_reducible refine HC.out.mono ?_); rintro e3 w3 ⟨rfl, hb3⟩
                 have K3 := Lib.hid hb3
                 clear hb3)
            go_roundw
            case rel => exact ⟨k + 1, by omega, by rw [HT.out]; rfl, by rw [HT.out]; rfl, by go_num, Lib.hid ((HBW.out.trans (HKc.out.mono hwr)).trans (K3.out.mono (Nat.le_trans hwr HKc.out.size)))⟩
            case measure => simp [intOf]; omega
        · have hltI : ¬ (k : Int) < e.l.length := by omega
          obtain rfl : k = e.l.length := by omega
          rw [List.take_of_length_le (Nat.le_refl _)]
          go_wp2
          go_ret2
          exact ⟨by rw [HP0.out]; rfl, HK0.out.trans (HBW.out.mono HK0.out.size)⟩
end Go.Proofs.YtbefmlioampgcaaGreatDoor

/- Code: the lines of an expression, or the error; walked. -/
namespace Go.Proofs.YtbefmlioampgcaaGreatDoor
open Go.RowKit
set_option linter.unusedVariables false
set_option linter.unusedSimpArgs false

set_option maxRecDepth 100000 in
theorem pMayA (ls : List LineL) (hok : ∀ x ∈ ls, LOk x) (hn : ls.length ≤ 1000000) (A : Option Addr) (c B : Nat) (w : World) (hr : Reads w w.heap.size 5 A ls.length (linesL ls)) (hL : LaidW B w) (hB : B ≤ w.heap.size) :
    Calls Tryz.prog 20 #[.slice A (ls.length : Nat) c] w (RetV (.bool (checkE ls == 0)) w) := by
  have HC := Lib.hid (pCheckW ls hok A ls.length c hn B w hr hL hB)
  by_cases he : checkE ls = 0
  · have HC0 : Hid (Calls Tryz.prog 38 #[.slice A (ls.length : Nat) c] w fun e w' => Below w.heap.size w w' ∧ ∃ b, e = .returned (.tuple #[.map (some b), .int .i64 0])) :=
      Lib.hid (HC.out.mono fun e w' h => ⟨h.1, by
        rcases h.2 with h | h
        · obtain ⟨-, b, n, h3, -⟩ := h
          exact ⟨b, h3⟩
        · exact absurd he h.1⟩)
    clear HC
    go_enter Tryz.func20, Tryz.ntmps20
    go_wp2_with (go_at_call 38; refine HC0.out.mono ?_; rintro e w1 ⟨hb1, b, rfl⟩)
    go_ret
    exact ⟨by rw [he]; rfl, hb1⟩
  · have HC0 : Hid (Calls Tryz.prog 38 #[.slice A (ls.length : Nat) c] w fun e w' => Below w.heap.size w w' ∧ e = .returned (.tuple #[.map none, .int .i64 (checkE ls)])) :=
      Lib.hid (HC.out.mono fun e w' h => ⟨h.1, by
        rcases h.2 with h | h
        · exact absurd h.1 he
        · exact h.2⟩)
    clear HC
    go_enter Tryz.func20, Tryz.ntmps20
    go_wp2_with (go_at_call 38; refine HC0.out.mono ?_; rintro e w1 ⟨hb1, rfl⟩)
    go_ret
    exact ⟨rfl, hb1⟩
theorem knownL_fst (g : EmL) : ∀ (l : List KE) (p : Bool × Bool), (knownL g p l).1 = true → p.1 = true ∧ ∀ x ∈ l, (knownE g x).1 = true
  | [], p, h => by rw [knownL] at h; exact ⟨h, fun x hx => by cases hx⟩
  | y :: l, p, h => by
    rw [knownL] at h
    obtain ⟨h1, h2⟩ := knownL_fst g l _ h
    simp only [Bool.and_eq_true] at h1
    exact ⟨h1.1, fun x hx => by
      rcases List.mem_cons.1 hx with rfl | hx
      · exact h1.2
      · exact h2 x hx⟩
theorem knownE_known (g : EmL) (e : KE) : (knownE g e).1 = true → KnownE g e := by
  induction e using KE.ind with
  | h e ih =>
    intro h
    refine KE.all_iff.2 ⟨fun hk => ?_, fun x hx => ?_⟩
    · rw [knownE_eq, if_pos (.inr hk)] at h
      split at h
      · cases h
      · rename_i hb
        simp only [badB, Bool.or_eq_true, decide_eq_true_eq, not_or] at hb
        omega
    · refine ih x hx ?_
      rw [knownE_eq] at h
      split at h
      · split at h
        · cases h
        · exact (knownL_fst g _ _ h).2 x hx
      · exact (knownL_fst g _ _ h).2 x hx
def dimB (x : KVar) : Bool := decide (0 ≤ x.dim ∧ x.dim ≤ 64)
/-- The error of Code: 0, 2 or 6. -/
def errC (g : EmL) (e : KE) (temp : Int) : Int :=
  if validE e = false ∨ 256 < g.vars.length ∨ temp < 0 ∨ 65535 < temp ∨ g.label = [] ∨ 24 < g.label.length ∨ checkE [⟨g.label, 4, 0, [], []⟩] ≠ 0 then 2
  else if g.vars.all dimB = false then 2
  else if (knownE g e).1 = false then 2 else if (knownE g e).2 = false then 6 else 0
/-- What Code returns. -/
def RetCode (g : EmL) (e : KE) (temp : Int) (w : World) (en : Ending) (w' : World) : Prop :=
  Below w.heap.size w w' ∧ ((errC g e temp ≠ 0 ∧ en = .returned (.tuple #[.slice none 0 0, .int .i64 (errC g e temp)])) ∨
    (errC g e temp = 0 ∧ ∃ A c, en = .returned (.tuple #[.slice A (codeE g.env e temp 0).1.length c, .int .i64 0]) ∧ w'.ownsRow w.heap.size 62 5 (.slice A (codeE g.env e temp 0).1.length c) (codeE g.env e temp 0).1.length (linesL (codeE g.env e temp 0).1)))
/-- The space, the variables and the frame lie below B; the label may be of any length. -/
def EnvIn0 (g : EmL) (w : World) (B : Nat) : Prop :=
  g.s.In w B ∧ (lenOk g.vars ∧ Reads w B 2 g.Av g.vars.length (varsC g.vars) ∧ ∀ x ∈ g.vars, x.kind ≤ 255 ∧ i64ok x.dim) ∧ i64ok g.frame ∧ g.label.length ≤ 281474976710656
set_option maxRecDepth 100000 in
set_option maxHeartbeats 8000000 in
theorem gGenCode (g : EmL) (e : KE) (temp : Int) (B : Nat) (w : World) (hi : e.In w B) (hn : EnvIn0 g w B) (hL : LaidG B w) (hB : B ≤ w.heap.size) (hti : i64ok temp) :
    Calls Tryz.prog 7 #[.agg e.cells, .slice g.Av g.vars.length g.cv, .agg g.s.cells, .int .i64 g.frame, .int .i64 temp, .string (strB g.label)] w (RetCode g e temp w) := by
  obtain ⟨W0, hW0⟩ : ∃ W, (w.alloc (.cells e.cells 27)).alloc (.cells g.s.cells 32) = W := ⟨_, rfl⟩
  obtain ⟨W1, hW1⟩ : ∃ W, W0.alloc (.cells g.ecells 64) = W := ⟨_, rfl⟩
  obtain ⟨W2, hW2⟩ : ∃ W, W1.alloc (.cells #[.string (strB g.label), .int .u8 4, .int .i32 0, .string ⟨#[]⟩, .string ⟨#[]⟩] 62) = W := ⟨_, rfl⟩
  have K0 : Below w.heap.size w W0 := by rw [← hW0]; exact below_2 w _ _
  have K1 : Below W0.heap.size W0 W1 := by rw [← hW1]; exact (Below.refl _ _).alloc (Nat.le_refl _) _
  have K2 : Below W1.heap.size W1 W2 := by rw [← hW2]; exact (Below.refl _ _).alloc (Nat.le_refl _) _
  have b6 : Blk W0 w.heap.size 27 e.cells := by rw [← hW0]; exact (Blk.new w _ _).alloc _
  have b8 : Blk W0 (w.heap.size + 1) 32 g.s.cells := by rw [← hW0]; exact blk_2 w _ _ _
  have b14 : Blk W1 W0.heap.size 64 g.ecells := by rw [← hW1]; exact Blk.new _ _ _
  have b28 : Blk W2 W1.heap.size 62 #[.string (strB g.label), .int .u8 4, .int .i32 0, .string ⟨#[]⟩, .string ⟨#[]⟩] := by rw [← hW2]; exact Blk.new _ _ _
  have b62 := (b6.call K1).call K2
  have b142 := b14.call K2
  have hs0 : W0.heap.size = w.heap.size + 1 + 1 := by rw [← hW0]; simp
  have KA : Below w.heap.size w W2 := (K0.trans (K1.mono K0.size)).trans (K2.mono (Nat.le_trans K0.size K1.size))
  have hBW : B ≤ W2.heap.size := Nat.le_trans hB KA.size
  have KB : Below B w W2 := KA.mono hB
  have HD := Lib.hid (dDepth e B W2 (hi.below KB) hBW hL.2.2.1 (hL.2.2.2.below KB hL.2.2.1))
  have HQ : Hid (errC g e temp = if validE e = false ∨ 256 < g.vars.length ∨ temp < 0 ∨ 65535 < temp ∨ g.label = [] ∨ 24 < g.label.length ∨ checkE [⟨g.label, 4, 0, [], []⟩] ≠ 0 then 2
    else if g.vars.all dimB = false then 2
    else if (knownE g e).1 = false then 2 else if (knownE g e).2 = false then 6 else 0) := Lib.hid rfl
  have HKA := Lib.hid KA
  simp only [KE.cells] at b6 b62 HD hW0 ⊢
  simp only [SpL.cells] at b8 hW0 ⊢
  simp only [EmL.ecells] at b14 b142 hW1
  have a0 := b6.cell 0
  have a1 := b6.cell 1
  have a2 := b6.cell 2
  have a3 := b6.cell 3
  have a4 := b6.cell 4
  have a5 := b6.cell 5
  simp at a0 a1 a2 a3 a4 a5
  have s0 := b8.cell 0
  have s1 := b8.cell 1
  have s2 := b8.cell 2
  have s3 := b8.cell 3
  have s4 := b8.cell 4
  simp at s0 s1 s2 s3 s4
  have c0 := b62.cell 0
  have c1 := b62.cell 1
  have c2 := b62.cell 2
  have c3 := b62.cell 3
  have c4 := b62.cell 4
  have c5 := b62.cell 5
  simp at c0 c1 c2 c3 c4 c5
  have z6 := b6.lt
  have z8 := b8.lt
  have z62 := b62.lt
  have z14 := b142.lt
  have HS0 := Lib.hid hs0
  have HB14 := Lib.hid b142
  have HB62 := Lib.hid b62
  have HB28 := Lib.hid b28
  have HI := Lib.hid hi
  have HN := Lib.hid hn
  have HL := Lib.hid hL
  have hlv := hn.2.1.1
  unfold lenOk at hlv
  have hll := hn.2.2.2
  have hlz : (strB g.label).size = g.label.length := rfl
  have hle := strB_empty g.label
  have ERR : Hid (∀ (W : World), errC g e temp = 2 → Below W2.heap.size W2 W → RetCode g e temp w (.returned (.tuple #[.slice none 0 0, .int .i64 2])) W) := Lib.hid fun W h1 h2 =>
    ⟨HKA.out.trans (h2.mono HKA.out.size), .inl ⟨by rw [h1]; decide, by rw [h1]⟩⟩
  clear b6 b8 b14 b28 b62 b142 K0 K1 K2 KA KB hi hn hL
  by_cases hv : validE e = false
  · have hd0 : depthV e = 0 := by unfold depthV; rw [hv]; rfl
    rw [hd0] at HD
    have HE2 : Hid (errC g e temp = 2) := Lib.hid (by rw [HQ.out, if_pos (.inl hv)])
    clear hv hd0 HQ hle hlz hs0
    generalize strB g.label = SL at *
    go_enter Tryz.func7, Tryz.ntmps7
    go_wp2_with first
      | (go_at_call 19; (with_reducible refine HD.out.mono ?_); rintro e3 w3 ⟨rfl, hb3⟩
         have K3 := Lib.hid hb3
         clear hb3)
    go_ret2
    exact ERR.out _ HE2.out K3.out
  have hD1 : 1 ≤ depthV e := by
    have h1 : validE e = true := by simpa using hv
    have := regsE_le e
    unfold depthV
    rw [h1]
    simpa using this.1
  have hbD : ((depthV e : Int) == 0) = false := by simp; omega
  have hve : validE e = true := by simpa using hv
  have HOK : Hid (OkE e) := Lib.hid (OkE.of_valid hve)
  have HVE := Lib.hid hv
  clear hv hve hD1
  have HM : Hid (∀ W, Below W2.heap.size W2 W → Calls Tryz.prog 20 #[.slice (some ⟨W1.heap.size, 0, none⟩) 1 1] W (RetV (.bool (checkE [⟨g.label, 4, 0, [], []⟩] == 0)) W)) := Lib.hid fun W hb => by
    have hKB : Below B w W := (HKA.out.mono hB).trans (hb.mono hBW)
    have hbl := HB28.out.call hb
    refine pMayA [⟨g.label, 4, 0, [], []⟩] (fun x hx => ?_) (by simp) (some ⟨W1.heap.size, 0, none⟩) 1 B W ?_ (HL.out.1.on hKB) (Nat.le_trans hBW hb.size)
    · simp only [List.mem_singleton] at hx
      subst hx
      exact ⟨(by decide : (4 : Nat) ≤ 255), is32_0, hll, by simp, by simp⟩
    · refine ⟨rfl, fun _ => ⟨_, rfl, hbl.lt, fun j u hu => ?_⟩⟩
      rw [Addr.add_lit, hbl.cell]
      simp only [Nat.zero_add]
      rw [← hu]
      rw [show linesL [⟨g.label, 4, 0, [], []⟩] = [.string (strB g.label), .int .u8 4, .int .i32 0, .string ⟨#[]⟩, .string ⟨#[]⟩] from rfl]
      exact List.getElem?_toArray
  generalize depthV e = D at *
  generalize checkE [⟨g.label, 4, 0, [], []⟩] = CK at *
  by_cases h1 : 256 < g.vars.length
  · have HE2 : Hid (errC g e temp = 2) := Lib.hid (by rw [HQ.out, if_pos (.inr (.inl h1))])
    clear HQ hle hlz
    generalize strB g.label = SL at *
    go_enter Tryz.func7, Tryz.ntmps7
    go_wp2_with first
      | (go_at_call 19; (with_reducible refine HD.out.mono ?_); rintro e3 w3 ⟨rfl, hb3⟩
         have K3 := Lib.hid hb3
         clear hb3)
    go_ret2
    exact ERR.out _ HE2.out K3.out
  by_cases h2 : temp < 0
  · have HE2 : Hid (errC g e temp = 2) := Lib.hid (by rw [HQ.out, if_pos (.inr (.inr (.inl h2)))])
    clear HQ hle hlz
    generalize strB g.label = SL at *
    go_enter Tryz.func7, Tryz.ntmps7
    go_wp2_with first
      | (go_at_call 19; (with_reducible refine HD.out.mono ?_); rintro e3 w3 ⟨rfl, hb3⟩
         have K3 := Lib.hid hb3
         clear hb3)
    go_ret2
    exact ERR.out _ HE2.out K3.out
  by_cases h3 : 65535 < temp
  · have HE2 : Hid (errC g e temp = 2) := Lib.hid (by rw [HQ.out, if_pos (.inr (.inr (.inr (.inl h3))))])
    clear HQ hle hlz
    generalize strB g.label = SL at *
    go_enter Tryz.func7, Tryz.ntmps7
    go_wp2_with first
      | (go_at_call 19; (with_reducible refine HD.out.mono ?_); rintro e3 w3 ⟨rfl, hb3⟩
         have K3 := Lib.hid hb3
         clear hb3)
    go_ret2
    exact ERR.out _ HE2.out K3.out
  by_cases h4 : g.label = []
  · have HE2 : Hid (errC g e temp = 2) := Lib.hid (by rw [HQ.out, if_pos (.inr (.inr (.inr (.inr (.inl h4)))))])
    rw [h4] at hle
    simp only [List.isEmpty_nil] at hle
    rw [← h4] at hle
    clear HQ hlz h4
    generalize strB g.label = SL at *
    go_enter Tryz.func7, Tryz.ntmps7
    go_wp2_with first
      | (go_at_call 19; (with_reducible refine HD.out.mono ?_); rintro e3 w3 ⟨rfl, hb3⟩
         have K3 := Lib.hid hb3
         clear hb3)
    go_ret2
    exact ERR.out _ HE2.out K3.out
  have hle4 : (strB g.label).toList.isEmpty = false := by rw [hle]; simpa using h4
  clear hle
  by_cases h6 : 24 < g.label.length
  · have HE2 : Hid (errC g e temp = 2) := Lib.hid (by rw [HQ.out, if_pos (.inr (.inr (.inr (.inr (.inr (.inl h6))))))])
    rw [← hlz] at h6
    clear HQ hlz h4
    generalize strB g.label = SL at *
    go_enter Tryz.func7, Tryz.ntmps7
    go_wp2_with first
      | (go_at_call 19; (with_reducible refine HD.out.mono ?_); rintro e3 w3 ⟨rfl, hb3⟩
         have K3 := Lib.hid hb3
         clear hb3)
    go_ret2
    exact ERR.out _ HE2.out K3.out
  by_cases h7 : CK = 0
  · have hck : (CK == 0) = true := by simpa using h7
    rw [hck] at HM
    have HQ2 : Hid (errC g e temp = if g.vars.all dimB = false then 2 else if (knownE g e).1 = false then 2 else if (knownE g e).2 = false then 6 else 0) := Lib.hid (by
      rw [HQ.out, if_neg]
      rw [not_or, not_or, not_or, not_or, not_or, not_or]
      exact ⟨HVE.out, h1, h2, h3, h4, h6, fun h => h h7⟩)
    have HEN : Hid (EnvIn g w B) := Lib.hid ⟨HN.out.1, HN.out.2.1, HN.out.2.2.1, by omega⟩
    have HLB : Hid (g.label.length ≤ 24) := Lib.hid (by omega)
    have h6' : ¬ 24 < (strB g.label).size := by rw [hlz]; exact h6
    clear HQ hlz h4 hck h7 h6
    obtain ⟨SL, hSL⟩ : ∃ S, strB g.label = S := ⟨_, rfl⟩
    have HSL := Lib.hid hSL
    rw [hSL] at h6' hle4 hW1 hW2 HB14 HB28 ⊢
    clear hSL
    go_enter Tryz.func7, Tryz.ntmps7
    go_wp2_with first
      | (go_at_call 19; (with_reducible refine HD.out.mono ?_); rintro e3 w3 ⟨rfl, hb3⟩
         have K3 := Lib.hid hb3
         clear hb3)
      | (go_at_call 20; (with_reducible refine (HM.out _ K3.out).mono ?_); rintro e4 w4 ⟨rfl, hb4⟩
         have K4 := Lib.hid (K3.out.trans (hb4.mono K3.out.size))
         clear hb4)
    have HB14' : Hid (Blk W2 (w.heap.size + 1 + 1) 64 #[.slice g.Av g.vars.length g.cv, .slice g.s.Af g.s.fr.length g.s.cf, .slice g.s.A1 g.s.vat.length g.s.c1, .slice g.s.A2 g.s.vin.length g.s.c2, .slice g.s.A3 g.s.cat.length g.s.c3, .slice g.s.A4 g.s.cin.length g.s.c4, .int .i64 g.frame, .string SL]) := Lib.hid (by rw [← HS0.out]; exact HB14.out)
    go_loopw [61] (fun i wr => ∃ k : Nat, k ≤ g.vars.length ∧ i = .int .i64 k ∧ Hid (Below W2.heap.size W2 wr) ∧ Hid ((g.vars.take k).all dimB = true)) (fun i _ => g.vars.length - (intOf i).toNat)
    case atStart => exact ⟨0, Nat.zero_le _, rfl, K4, Lib.hid (by simp)⟩
    case round =>
      clear K4 K3
      obtain ⟨k, hk, rfl, KW, HDM⟩ := hrel
      have hws := KW.out.size
      by_cases hlt : k < g.vars.length
      · have hltI : (k : Int) < g.vars.length := by omega
        have hNk : ¬ g.vars.length ≤ k := by omega
        obtain ⟨bv, ov, xv, hAv, hbv, hxv, hdim, v0, v1⟩ := var_at (HEN.out.below ((HKA.out.mono hB).trans (KW.out.mono hBW))) hlt
        have HXV := Lib.hid hxv
        rw [hAv]
        clear hAv
        by_cases hd : dimB xv = true
        · have hdd : 0 ≤ xv.dim ∧ xv.dim ≤ 64 := by simpa [dimB] using hd
          have hd1 : ¬ xv.dim < 0 := by omega
          have hd2 : ¬ 64 < xv.dim := by omega
          have HDM2 : Hid ((g.vars.take (k + 1)).all dimB = true) := Lib.hid (by rw [List.take_add_one, HXV.out]; simp [HDM.out, hd])
          clear hxv hd hdd hdim
          go_wp2
          go_roundw
          case rel => exact ⟨k + 1, by omega, by go_num, Lib.hid (KW.out.alloc hws _), HDM2⟩
          case measure => simp [intOf]; omega
        · have hbad : g.vars.all dimB = false := by
            rw [List.all_eq_false]
            exact ⟨xv, List.mem_of_getElem? HXV.out, hd⟩
          have HE2 : Hid (errC g e temp = 2) := Lib.hid (by rw [HQ2.out, if_pos hbad])
          have hdd : xv.dim < 0 ∨ (¬ xv.dim < 0 ∧ 64 < xv.dim) := by
            simp [dimB] at hd
            omega
          clear hxv hd hbad HDM hdim
          rcases hdd with hd1 | ⟨hd1, hd2⟩
          all_goals
            go_wp2
            go_ret2
            exact ERR.out _ HE2.out (KW.out.alloc hws _)
      · have hltI : ¬ (k : Int) < g.vars.length := by omega
        have hNk : g.vars.length ≤ k := by omega
        obtain rfl : k = g.vars.length := by omega
        have hall := HDM.out
        rw [List.take_of_length_le (Nat.le_refl _)] at hall
        have HQ3 : Hid (errC g e temp = if (knownE g e).1 = false then 2 else if (knownE g e).2 = false then 6 else 0) := Lib.hid (by rw [HQ2.out, if_neg (by rw [hall]; decide)])
        have e14 := HB14'.out.call KW.out
        have e6 := HB62.out.call KW.out
        have q0 := e14.cell 0
        have q1 := e14.cell 1
        have q2 := e14.cell 2
        have q3 := e14.cell 3
        have q4 := e14.cell 4
        have q5 := e14.cell 5
        have q6 := e14.cell 6
        have q7 := e14.cell 7
        simp at q0 q1 q2 q3 q4 q5 q6 q7
        have r0 := e6.cell 0
        have r1 := e6.cell 1
        have r2 := e6.cell 2
        have r3 := e6.cell 3
        have r4 := e6.cell 4
        have r5 := e6.cell 5
        simp at r0 r1 r2 r3 r4 r5
        have hKB : Below B w wr := (HKA.out.mono hB).trans (KW.out.mono hBW)
        have hBr : B ≤ wr.heap.size := Nat.le_trans hBW hws
        have HKN := Lib.hid (gKnown g e (validE_all HOK.out.valid) B wr (HI.out.below hKB) (HEN.out.below hKB) hBr)
        simp only [EmL.ecells, KE.cells] at HKN
        rw [HSL.out] at HKN
        have hl14 := e14.lt
        have hl6 := e6.lt
        clear e6 hKB hBr hall HDM HQ2
        obtain ⟨kn, hkn⟩ : ∃ p, knownE g e = p := ⟨_, rfl⟩
        rw [hkn] at HKN HQ3
        have HKK := Lib.hid hkn
        clear hkn
        obtain ⟨k1, k2⟩ := kn
        simp only at HKN HQ3
        cases k1 with
        | false =>
          have HE2 : Hid (errC g e temp = 2) := Lib.hid (by rw [HQ3.out, if_pos rfl])
          go_wp2_with first
            | (go_at_call 21; (with_reducible refine HKN.out.mono ?_); rintro e5 w5 ⟨rfl, hb5⟩
               have K5 := Lib.hid (KW.out.trans (hb5.mono hws))
               clear hb5)
          go_ret2
          exact ERR.out _ HE2.out K5.out
        | true =>
          cases k2 with
          | false =>
            have HE6 : Hid (errC g e temp = 6) := Lib.hid (by rw [HQ3.out, if_neg (by decide), if_pos rfl])
            go_wp2_with first
              | (go_at_call 21; (with_reducible refine HKN.out.mono ?_); rintro e5 w5 ⟨rfl, hb5⟩
                 have K5 := Lib.hid (KW.out.trans (hb5.mono hws))
                 clear hb5)
            go_ret2
            exact ⟨HKA.out.trans (K5.out.mono HKA.out.size), .inl ⟨by rw [HE6.out]; decide, by rw [HE6.out]; rfl⟩⟩
          | true =>
            have HE0 : Hid (errC g e temp = 0) := Lib.hid (by rw [HQ3.out, if_neg (by decide), if_neg (by decide)])
            have HKE : Hid (KnownE g e) := Lib.hid (knownE_known g e (by rw [HKK.out]))
            have E14 := Lib.hid e14
            have E6 := Lib.hid (HB62.out.call KW.out)
            clear e14
            have HCO : Hid (∀ W, Below W2.heap.size W2 W → Calls Tryz.prog 22 #[.pointer (some ⟨W.heap.size, 0, none⟩), .agg e.cells, .int .i32 temp] (W.alloc (.cells #[.slice g.Av g.vars.length g.cv, .slice g.s.Af g.s.fr.length g.s.cf, .slice g.s.A1 g.s.vat.length g.s.c1, .slice g.s.A2 g.s.vin.length g.s.c2, .slice g.s.A3 g.s.cat.length g.s.c3, .slice g.s.A4 g.s.cin.length g.s.c4, .int .i64 g.frame, .string (strB g.label), .slice none 0 0, .int .i64 0, .string ⟨#[]⟩] 72))
                (RetEm g W.heap.size W.heap.size (codeE g.env e temp 0).1 (codeE g.env e temp 0).2 [] (W.alloc (.cells #[.slice g.Av g.vars.length g.cv, .slice g.s.Af g.s.fr.length g.s.cf, .slice g.s.A1 g.s.vat.length g.s.c1, .slice g.s.A2 g.s.vin.length g.s.c2, .slice g.s.A3 g.s.cat.length g.s.c3, .slice g.s.A4 g.s.cin.length g.s.c4, .int .i64 g.frame, .string (strB g.label), .slice none 0 0, .int .i64 0, .string ⟨#[]⟩] 72)))) := Lib.hid fun W hb => by
              have hBWW : B ≤ W.heap.size := Nat.le_trans hBW hb.size
              have hKB : Below B w (W.alloc (.cells (g.cells (.slice none 0 0) 0 []) 72)) := ((HKA.out.mono hB).trans (hb.mono hBW)).alloc hBWW _
              have hnod := valid_nodes HOK.out.valid
              exact gCode g W.heap.size W.heap.size B e HOK.out HKE.out temp [] 0 (W.alloc (.cells (g.cells (.slice none 0 0) 0 []) 72)) (by omega) (by omega) (by simp; omega) (by omega) (HI.out.below hKB) (HL.out.on hKB) (HEN.out.below hKB) hBWW
                ⟨Nat.le_refl _, .slice none 0 0, Blk.new W _ _, World.ownsRow_nil _ _ _ _⟩
            simp only [KE.cells] at HCO
            rw [HSL.out] at HCO
            go_wp2_with first
              | (go_at_call 22; (with_reducible refine (HCO.out _ K5.out).mono ?_); rintro e6 w6 ⟨rfl, hem, hek⟩
                 obtain ⟨-, v6, hB6, hO6⟩ := hem
                 obtain ⟨A6, c6, rfl⟩ := own_form hO6
                 have g8 := hB6.cell 8
                 simp [EmL.cells] at g8
                 have HO6 := Lib.hid hO6
                 have K6 := Lib.hid hek.1
                 have hl6 := hB6.lt
                 clear hB6 hO6 hek)
              | (go_at_call 21; (with_reducible refine HKN.out.mono ?_); rintro e5 w5 ⟨rfl, hb5⟩
                 have K5 := Lib.hid (KW.out.trans (hb5.mono hws))
                 have hw5 := hb5.size
                 have e14 := E14.out.call hb5
                 have e6 := E6.out.call hb5
                 have q0 := e14.cell 0
                 have q1 := e14.cell 1
                 have q2 := e14.cell 2
                 have q3 := e14.cell 3
                 have q4 := e14.cell 4
                 have q5 := e14.cell 5
                 have q6 := e14.cell 6
                 have q7 := e14.cell 7
                 simp at q0 q1 q2 q3 q4 q5 q6 q7
                 have r0 := e6.cell 0
                 have r1 := e6.cell 1
                 have r2 := e6.cell 2
                 have r3 := e6.cell 3
                 have r4 := e6.cell 4
                 have r5 := e6.cell 5
                 simp at r0 r1 r2 r3 r4 r5
                 have hl14 := e14.lt
                 have hl6 := e6.lt
                 clear hb5 e14 e6)
            go_ret2
            have k5 : Below w.heap.size w w5 := HKA.out.trans (K5.out.mono HKA.out.size)
            exact ⟨k5.trans ((((Below.refl _ w5).alloc (Nat.le_refl _) _).trans K6.out).mono k5.size), .inr ⟨HE0.out, A6, c6, rfl, HO6.out.weak k5.size⟩⟩
  · have hck : (CK == 0) = false := by simpa using h7
    rw [hck] at HM
    have HE2 : Hid (errC g e temp = 2) := Lib.hid (by rw [HQ.out, if_pos (.inr (.inr (.inr (.inr (.inr (.inr h7))))))])
    have h6' : ¬ 24 < (strB g.label).size := by rw [hlz]; exact h6
    clear HQ hlz h4 hck h7 h6
    generalize strB g.label = SL at *
    go_enter Tryz.func7, Tryz.ntmps7
    go_wp2_with first
      | (go_at_call 19; (with_reducible refine HD.out.mono ?_); rintro e3 w3 ⟨rfl, hb3⟩
         have K3 := Lib.hid hb3
         clear hb3)
      | (go_at_call 20; (with_reducible refine (HM.out _ K3.out).mono ?_); rintro e4 w4 ⟨rfl, hb4⟩
         have K4 := Lib.hid (K3.out.trans (hb4.mono K3.out.size))
         clear hb4)
    go_ret2
    exact ERR.out _ HE2.out K4.out
end Go.Proofs.YtbefmlioampgcaaGreatDoor
