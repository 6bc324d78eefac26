/- Texts that belong together, joined: what each one holds is told ahead of it. -/
import Derived.Test.YtbefmlioampgcaaDoorHDB
import Derived.Test.YtbefmlioampgcaaDoorHK12
import Derived.Test.YtbefmlioampgcaaDoorHK24
set_option linter.unusedVariables false
set_option linter.unusedSimpArgs false
/- GenexpRegisters, walked. -/
namespace Go.Proofs.YtbefmlioampgcaaDoor
open Go.RowKit
set_option linter.unusedVariables false
set_option linter.unusedSimpArgs false

theorem regN_step {D m q : Nat} {x : LineL} {r : List LineL} (h : regN D m (x :: r) = some q) : ∃ t v, effN x = some (t, v) ∧ t ≤ m ∧ m - t + v ≤ D ∧ regN D (m - t + v) r = some q := by
  rw [regN] at h
  cases he : effN x with
  | none => rw [he] at h; cases h
  | some p =>
    obtain ⟨t, v⟩ := p
    rw [he] at h
    simp only at h
    split at h
    · cases h
    · exact ⟨t, v, rfl, by omega, by omega, h⟩
theorem effV_of {x : LineL} {t v : Nat} (h : effN x = some (t, v)) : effectV (findI (x.fn : Int) x.arg) = .tuple #[.int .i64 t, .int .i64 v, .bool true] := by
  unfold effN at h
  cases hf : findI (x.fn : Int) x.arg with
  | none => rw [hf] at h; cases h
  | some r =>
    rw [hf] at h
    simp at h
    obtain ⟨rfl, rfl⟩ := h
    rfl
/-- A line of a row: where its cells lie. -/
theorem line_atR {w : World} {B n : Nat} {A : Option Addr} {ls : List LineL} (h : Reads w B 5 A n (linesL ls)) {k : Nat} (hk : k < ls.length) (hn : ls.length = n) :
    ∃ b off x, A = some ⟨b, off, none⟩ ∧ b < B ∧ ls[k]? = some x ∧ w.cell? ⟨b, off + k * 5, none⟩ = some (.string (strB x.label)) ∧ w.cell? ⟨b, off + k * 5 + 1, none⟩ = some (.int .u8 x.fn) ∧ w.cell? ⟨b, off + k * 5 + 2, none⟩ = some (.int .i32 x.arg) ∧
      w.cell? ⟨b, off + k * 5 + 3, none⟩ = some (.string (strB x.target)) ∧ w.cell? ⟨b, off + k * 5 + 4, none⟩ = some (.string (strB x.frm)) := by
  subst hn
  obtain ⟨b, off, x, h1, h2, h3, h4, hc⟩ := row_at (f := fun x => (lineC x).toList) (size := 5) (fun _ => rfl) (by decide) h hk
  exact ⟨b, off, x, h1, h2, h3, hc 0 _ rfl, hc 1 _ rfl, hc 2 _ rfl, hc 3 _ rfl, hc 4 _ rfl⟩
theorem errC_valid {g : EmL} {e : KE} {temp : Int} (h : errC g e temp = 0) : validE e = true := by
  unfold errC at h
  split at h
  · cases h
  · rename_i hc
    simp only [not_or] at hc
    simpa using hc.1
theorem code_fn (env : CEnv) (e : KE) : ∀ (t : Int) (n : Nat), ∀ x ∈ (codeE env e t n).1, x.fn ≤ 255 := by
  induction e using KE.ind with
  | h e ih =>
    intro t n
    have hO : ∀ x ∈ operL e.oper, x.fn ≤ 255 := fun x hx => by have := (oper_mem hx).2.2.2; omega
    match hl : e.l with
    | [] =>
      rw [codeE_0 env hl]
      split <;> simp [lnF]
    | [a] =>
      rw [codeE_1 env hl]
      intro x hx
      rcases List.mem_append.1 hx with hx | hx
      · exact ih a (by rw [hl]; simp) t n x hx
      · have := (after_mem hx).2.2.2; omega
    | a :: b :: r =>
      have hia := ih a (by rw [hl]; simp)
      have hib := ih b (by rw [hl]; simp)
      rw [codeE_2 env hl]
      by_cases h20 : e.oper = 20 ∨ e.oper = 21
      · rw [if_pos h20]
        by_cases h21 : e.oper = 21
        · simp only [if_pos h21]
          intro x hx
          simp only [List.mem_append, List.mem_cons, List.not_mem_nil, or_false] at hx
          rcases hx with hx | rfl | rfl | hx | rfl | rfl
          · exact hia _ _ x hx
          · simp [lnF]
          · simp [lnJ]
          · exact hib _ _ x hx
          · simp [lnF]
          · simp
        · simp only [if_neg h21]
          intro x hx
          simp only [List.mem_append, List.mem_cons, List.not_mem_nil, or_false] at hx
          rcases hx with hx | rfl | hx | rfl
          · exact hia _ _ x hx
          · simp [lnJ]
          · exact hib _ _ x hx
          · simp
      · rw [if_neg h20]
        by_cases h33 : regsE a = 3 ∧ regsE b = 3
        · rw [if_pos h33]
          simp only
          intro x hx
          simp only [List.mem_append, List.mem_cons, List.not_mem_nil, or_false] at hx
          rcases hx with hx | rfl | hx | rfl | hx
          · exact hib _ _ x hx
          · simp [lnF]
          · exact hia _ _ x hx
          · simp [lnF]
          · exact hO x hx
        · rw [if_neg h33]
          by_cases hlt : regsE a < regsE b
          · rw [if_pos hlt]
            simp only
            intro x hx
            simp only [List.mem_append, List.mem_cons, List.not_mem_nil, or_false] at hx
            rcases hx with hx | hx | rfl | hx
            · exact hib _ _ x hx
            · exact hia _ _ x hx
            · simp [lnO, lnF]
            · exact hO x hx
          · rw [if_neg hlt]
            simp only
            intro x hx
            simp only [List.mem_append] at hx
            rcases hx with hx | hx | hx
            · exact hia _ _ x hx
            · exact hib _ _ x hx
            · exact hO x hx
set_option maxRecDepth 100000 in
set_option maxHeartbeats 8000000 in
theorem lRegisters (g : EmL) (e : KE) (temp : Int) (B : Nat) (w : World) (hi : e.In w B) (hn : EnvIn0 g w B) (hti : i64ok temp) (hL : LaidG B w) (hB : B ≤ w.heap.size) :
    Calls Tryd.prog 6 #[.agg (caseC g e temp)] w (RetV (.bool true) w) := by
  obtain ⟨W0, hW0⟩ : ∃ W, w.alloc (.cells (caseC g e temp) 43) = W := ⟨_, rfl⟩
  have K0 : Below w.heap.size w W0 := by rw [← hW0]; exact (Below.refl _ _).alloc (Nat.le_refl _) _
  have b0 : Blk W0 w.heap.size 43 (caseC g e temp) := by rw [← hW0]; exact Blk.new _ _ _
  have hG := Lib.hid (lGreat25 g e temp W0 hn.2.1.1 hn.1.1.1 hn.1.2.1.1 hn.1.2.2.1.1 hn.1.2.2.2.1.1 hn.1.2.2.2.2.1)
  have HH : Hid (∀ W, Below w.heap.size w W → Calls Tryd.prog 7 #[] W (RetV (.bool true) W)) := Lib.hid fun W hb => lHead B W (hL.on (hb.mono hB)) (Nat.le_trans hB hb.size)
  have HD : Hid (∀ W, Below w.heap.size w W → Calls Tryd.prog 18 #[.agg e.cells] W (RetV (.int .i64 (depthV e)) W)) := Lib.hid fun W hb =>
    dDepth e B W (hi.below (hb.mono hB)) (Nat.le_trans hB hb.size) hL.2.2.1 (hL.2.2.2.below (hb.mono hB) hL.2.2.1)
  have HEF : Hid (∀ (W : World) (x : LineL), Below w.heap.size w W → x.fn ≤ 255 → Calls Tryd.prog 17 #[.agg #[.int .u8 x.fn, .int .i32 x.arg]] W (RetV (effectV (findI (x.fn : Int) x.arg)) W)) := Lib.hid fun W x hb hx =>
    pEffectW (x.fn : Int) x.arg ⟨by omega, by omega⟩ B W (hL.1.on (hb.mono hB)) (Nat.le_trans hB hb.size)
  have HCO : Hid (∀ W, Below w.heap.size w W → Calls Tryd.prog 12 #[.agg e.cells, .slice g.Av g.vars.length g.cv, .agg g.s.cells, .int .i64 g.frame, .int .i64 temp, .string (strB g.label)] W (RetCode g e temp W)) := Lib.hid fun W hb => by
    have hKB := hb.mono hB
    exact gGenCode g e temp B W (hi.below hKB) ⟨hn.1.below hKB, ⟨hn.2.1.1, hn.2.1.2.1.below hKB, hn.2.1.2.2⟩, hn.2.2⟩ (hL.on hKB) (Nat.le_trans hB hb.size) hti
  have HK0 := Lib.hid K0
  have HB0 := Lib.hid b0
  simp only [caseC] at b0 hW0 hG HB0 ⊢
  simp only [KE.cells] at HD HCO
  simp only [SpL.cells] at HCO
  have c0 := b0.cell 0
  have c1 := b0.cell 1
  have c2 := b0.cell 2
  have c3 := b0.cell 3
  have c4 := b0.cell 4
  have c5 := b0.cell 5
  have c6 := b0.cell 6
  have c7 := b0.cell 7
  have c8 := b0.cell 8
  have c9 := b0.cell 9
  have c10 := b0.cell 10
  have c11 := b0.cell 11
  have c12 := b0.cell 12
  have c13 := b0.cell 13
  have c14 := b0.cell 14
  simp at c0 c1 c2 c3 c4 c5 c6 c7 c8 c9 c10 c11 c12 c13 c14
  have hlt := b0.lt
  clear b0 K0 hi hn hL
  generalize hgr : greatG g = gr at *
  clear hgr
  generalize strB g.label = SL at *
  cases gr with
  | true =>
    go_enter Tryd.func6, Tryd.ntmps6
    go_wp2_with first
      | (go_at_call 13; (with_reducible refine hG.out.mono ?_); rintro e1 w1 ⟨rfl, hb1⟩
         have K1 := Lib.hid (HK0.out.trans (hb1.mono HK0.out.size))
         clear hb1)
      | (go_at_call 7; (with_reducible refine (HH.out _ K1.out).mono ?_); rintro e2 w2 ⟨rfl, hb2⟩)
    go_ret
    exact ⟨rfl, K1.out.trans (hb2.mono K1.out.size)⟩
  | false =>
    by_cases he : errC g e temp = 0
    · have hval := errC_valid he
      have hdep : depthV e = regsE e := by unfold depthV; rw [hval]; rfl
      have hall : e.all (fun x => fieldsB x = true) := by
        unfold validE at hval
        cases hr : roomE 0 256 e with
        | none => rw [hr] at hval; cases hval
        | some r => exact roomE_all e hr
      have hcl := (code_len g.env e temp 0).1
      have hnd := valid_nodes hval
      have hreg := regN_code g.env e hall (regsE e) 0 temp 0 (by omega)
      have hfn := code_fn g.env e temp 0
      have hD3 := (regsE_le e).2
      have HC2 : Hid (∀ W, Below w.heap.size w W → Calls Tryd.prog 12 #[.agg #[.int .u8 e.kind, .int .u8 e.oper, .int .u8 e.tk, .int .i32 e.n, .int .i64 e.v, .slice e.A e.l.length e.c], .slice g.Av g.vars.length g.cv, .agg #[.slice g.s.Af g.s.fr.length g.s.cf, .slice g.s.A1 g.s.vat.length g.s.c1, .slice g.s.A2 g.s.vin.length g.s.c2, .slice g.s.A3 g.s.cat.length g.s.c3, .slice g.s.A4 g.s.cin.length g.s.c4], .int .i64 g.frame, .int .i64 temp, .string SL] W
          (fun en w' => Below W.heap.size W w' ∧ ∃ A c, en = .returned (.tuple #[.slice A (codeE g.env e temp 0).1.length c, .int .i64 0]) ∧ w'.ownsRow W.heap.size 51 5 (.slice A (codeE g.env e temp 0).1.length c) (codeE g.env e temp 0).1.length (linesL (codeE g.env e temp 0).1))) := Lib.hid fun W hb => (HCO.out W hb).mono fun en w' h => by
        rcases h.2 with h2 | h2
        · exact absurd he h2.1
        · obtain ⟨-, A, c, h3, h4⟩ := h2
          rw [he] at *
          exact ⟨h.1, A, c, h3, h4⟩
      rw [hdep] at HD
      clear HCO he hdep hall
      generalize (codeE g.env e temp 0).1 = ls at *
      generalize regsE e = D at *
      have HREG := Lib.hid hreg
      have HFN := Lib.hid hfn
      obtain ⟨N, hN⟩ : ∃ N, ls.length = N := ⟨_, rfl⟩
      rw [hN] at HC2 hcl
      have HN := Lib.hid hN
      have hN0 : N ≤ 100000 := by omega
      clear hreg hfn hN hcl hnd hval
      go_enter Tryd.func6, Tryd.ntmps6
      go_wp2_with first
        | (go_at_call 13; (with_reducible refine hG.out.mono ?_); rintro e1 w1 ⟨rfl, hb1⟩
           have K1 := Lib.hid (HK0.out.trans (hb1.mono HK0.out.size))
           have B1 := Lib.hid (HB0.out.call hb1)
           have b1 := B1.out
           have d0 := b1.cell 0
           have d1 := b1.cell 1
           have d2 := b1.cell 2
           have d3 := b1.cell 3
           have d4 := b1.cell 4
           have d5 := b1.cell 5
           have d6 := b1.cell 6
           have d7 := b1.cell 7
           have d8 := b1.cell 8
           have d9 := b1.cell 9
           have d10 := b1.cell 10
           have d11 := b1.cell 11
           have d12 := b1.cell 12
           have d13 := b1.cell 13
           have d14 := b1.cell 14
           simp at d0 d1 d2 d3 d4 d5 d6 d7 d8 d9 d10 d11 d12 d13 d14
           clear hb1 b1)
        | (go_at_call 12; (with_reducible refine (HC2.out _ K1.out).mono ?_); rintro e2 w2 ⟨hb2, A, cp, rfl, ho⟩
           have HB2 := Lib.hid (Below.refl w1.heap.size w1 |>.trans hb2)
           have HO2 := Lib.hid ho
           have K2 := Lib.hid (K1.out.trans (hb2.mono K1.out.size))
           clear hb2 ho)
      go_loopw [5, 6] (fun n i wr => ∃ k m : Nat, k ≤ N ∧ m ≤ 3 ∧ n = .int .i64 m ∧ i = .int .i64 k ∧ Hid (regN D m (ls.drop k) = some 1) ∧ Hid (Below w1.heap.size w1 wr) ∧ Hid (wr.ownsRow w1.heap.size 51 5 (.slice A N cp) N (linesL ls))) (fun _ i _ => N - (intOf i).toNat)
      case atStart => exact ⟨0, 0, Nat.zero_le _, Nat.zero_le _, rfl, rfl, HREG, HB2, HO2⟩
      case round =>
        clear HB2 HO2 K2
        obtain ⟨k, m, hk, hm3, rfl, rfl, R, K, O⟩ := hrel
        have KW := Lib.hid (K1.out.trans (K.out.mono K1.out.size))
        by_cases hlt : k < N
        · have hltI : (k : Int) < N := by omega
          have hkN : ¬ N ≤ k := by omega
          obtain ⟨b, off, x, hA, hb, hx, l0, l1, l2, l3, l4⟩ := line_atR (Reads.of_own O.out) (by rw [HN.out]; exact hlt) HN.out
          have hdr : ls.drop k = x :: ls.drop (k + 1) := by
            obtain ⟨h1, h2⟩ := List.getElem?_eq_some_iff.1 hx
            rw [List.drop_eq_getElem_cons h1, h2]
          have hR := R.out
          rw [hdr] at hR
          obtain ⟨t, v, hef, ht1, ht2, hR2⟩ := regN_step hR
          have HE1 : Hid (∀ W, Below w.heap.size w W → Calls Tryd.prog 17 #[.agg #[.int .u8 x.fn, .int .i32 x.arg]] W (RetV (.tuple #[.int .i64 t, .int .i64 v, .bool true]) W)) := Lib.hid fun W hb => by
            rw [← effV_of hef]
            exact HEF.out W x hb (HFN.out x (List.mem_of_getElem? hx))
          have R2 := Lib.hid hR2
          have HA := Lib.hid hA
          rw [hA]
          clear hA hx hdr hR hef hR2
          have hq1 : ¬ (m : Int) < t := by omega
          have hq2 : ¬ m < t := by omega
          have hq3 : ¬ (D : Int) < (m : Int) - t + v := by omega
          obtain ⟨ι, F, i0', h0', hFb, hcl⟩ := fam_below wr
          haveI : Nonempty ι := ⟨i0'⟩
          have F1 : ∀ i, (F i).cell? ⟨b, off + k * 5 + 1, none⟩ = some (.int .u8 x.fn) := fun i => ((bcell (hFb i)).1 _ _ hb).trans l1
          have F2 : ∀ i, (F i).cell? ⟨b, off + k * 5 + 2, none⟩ = some (.int .i32 x.arg) := fun i => ((bcell (hFb i)).1 _ _ hb).trans l2
          have HFB := Lib.hid hFb
          clear hFb l0 l1 l2 l3 l4
          go_upto_region 10 with fail
          refine wp_region_quiet_fam F i0' h0' (by kernel_rfl) (by kernel_rfl) ?_
          repeat (go_big_quiet_step (first
            | (go_at_call 17; (with_reducible refine (HE1.out _ (KW.out.trans ((HFB.out _).mono KW.out.size))).mono ?_); rintro e3 w3 ⟨rfl, hb3⟩; exact ⟨rfl, hcl _ _ hb3⟩)))
          refine wpQuiet_nil ?_
          intro i
          have KI := Lib.hid (KW.out.trans ((HFB.out i).mono KW.out.size))
          have KJ := Lib.hid (K.out.trans ((HFB.out i).mono K.out.size))
          have bi := B1.out.below KJ.out B1.out.lt
          have f0 := bi.cell 0
          have f1 := bi.cell 1
          have f2 := bi.cell 2
          have f3 := bi.cell 3
          have f4 := bi.cell 4
          have f5 := bi.cell 5
          have f6 := bi.cell 6
          have f7 := bi.cell 7
          have f8 := bi.cell 8
          have f9 := bi.cell 9
          have f10 := bi.cell 10
          have f11 := bi.cell 11
          have f12 := bi.cell 12
          have f13 := bi.cell 13
          have f14 := bi.cell 14
          simp at f0 f1 f2 f3 f4 f5 f6 f7 f8 f9 f10 f11 f12 f13 f14
          clear bi
          go_wp2_with first
            | (go_at_call 18; (with_reducible refine (HD.out _ KI.out).mono ?_); rintro e5 w5 ⟨rfl, hb5⟩
               have KZ := Lib.hid (KJ.out.trans (hb5.mono KJ.out.size))
               have OZ := Lib.hid (O.out.below ((HFB.out i).trans (hb5.mono (HFB.out i).size)))
               clear hb5)
          go_roundw
          case rel => exact ⟨k + 1, m - t + v, by omega, by omega, by go_num, by go_num, R2, KZ, by rw [← HA.out]; exact OZ⟩
          case measure => simp [intOf]; omega
        · have hltI : ¬ (k : Int) < N := by omega
          have hkN : N ≤ k := by omega
          have hm1 : (m : Int) = 1 := by
            have hR := R.out
            rw [List.drop_of_length_le (by rw [HN.out]; omega), regN] at hR
            injection hR with hR
            omega
          rw [hm1]
          go_wp2_with first
            | (go_at_call 7; (with_reducible refine (HH.out _ KW.out).mono ?_); rintro e6 w6 ⟨rfl, hb6⟩)
          go_ret
          exact ⟨rfl, KW.out.trans (hb6.mono KW.out.size)⟩
    · have HC2 : Hid (∀ W, Below w.heap.size w W → Calls Tryd.prog 12 #[.agg #[.int .u8 e.kind, .int .u8 e.oper, .int .u8 e.tk, .int .i32 e.n, .int .i64 e.v, .slice e.A e.l.length e.c], .slice g.Av g.vars.length g.cv, .agg #[.slice g.s.Af g.s.fr.length g.s.cf, .slice g.s.A1 g.s.vat.length g.s.c1, .slice g.s.A2 g.s.vin.length g.s.c2, .slice g.s.A3 g.s.cat.length g.s.c3, .slice g.s.A4 g.s.cin.length g.s.c4], .int .i64 g.frame, .int .i64 temp, .string SL] W
          (RetV (.tuple #[.slice none 0 0, .int .i64 (errC g e temp)]) W)) := Lib.hid fun W hb => (HCO.out W hb).mono fun en w' h => by
        rcases h.2 with h2 | h2
        · exact ⟨h2.2, h.1⟩
        · exact absurd h2.1 he
      have hne : (errC g e temp == 0) = false := by simpa using he
      generalize errC g e temp = ER at *
      clear HCO HD HEF he
      go_enter Tryd.func6, Tryd.ntmps6
      go_wp2_with first
        | (go_at_call 13; (with_reducible refine hG.out.mono ?_); rintro e1 w1 ⟨rfl, hb1⟩
           have K1 := Lib.hid (HK0.out.trans (hb1.mono HK0.out.size))
           have b1 := HB0.out.call hb1
           have d0 := b1.cell 0
           have d1 := b1.cell 1
           have d2 := b1.cell 2
           have d3 := b1.cell 3
           have d4 := b1.cell 4
           have d5 := b1.cell 5
           have d6 := b1.cell 6
           have d7 := b1.cell 7
           have d8 := b1.cell 8
           have d9 := b1.cell 9
           have d10 := b1.cell 10
           have d11 := b1.cell 11
           have d12 := b1.cell 12
           have d13 := b1.cell 13
           have d14 := b1.cell 14
           simp at d0 d1 d2 d3 d4 d5 d6 d7 d8 d9 d10 d11 d12 d13 d14
           clear hb1 b1)
        | (go_at_call 12; (with_reducible refine (HC2.out _ K1.out).mono ?_); rintro e2 w2 ⟨rfl, hb2⟩
           have K2 := Lib.hid (K1.out.trans (hb2.mono K1.out.size))
           clear hb2)
        | (go_at_call 7; (with_reducible refine (HH.out _ K2.out).mono ?_); rintro e3 w3 ⟨rfl, hb3⟩)
      go_ret
      exact ⟨rfl, K2.out.trans (hb3.mono K2.out.size)⟩
end Go.Proofs.YtbefmlioampgcaaDoor

/- GenexpTemps, walked. -/
namespace Go.Proofs.YtbefmlioampgcaaDoor
open Go.RowKit
set_option linter.unusedVariables false
set_option linter.unusedSimpArgs false

theorem errC_bounds {g : EmL} {e : KE} {temp : Int} (h : errC g e temp = 0) : 0 ≤ temp ∧ temp ≤ 65535 ∧ g.label ≠ [] ∧ g.label.length ≤ 24 := by
  unfold errC at h
  split at h
  · cases h
  · rename_i hc
    simp only [not_or] at hc
    exact ⟨by omega, by omega, hc.2.2.2.2.1, by omega⟩
theorem decDigits_ne (j : Nat) : Lib.decDigits j ≠ [] := by
  intro h
  rw [Lib.decDigits] at h
  split at h <;> simp at h
set_option maxRecDepth 100000 in
set_option maxHeartbeats 8000000 in
theorem lTemps (g : EmL) (e : KE) (temp : Int) (B : Nat) (w : World) (hi : e.In w B) (hn : EnvIn0 g w B) (hti : i64ok temp) (hL : LaidG B w) (hB : B ≤ w.heap.size) :
    Calls Tryd.prog 5 #[.agg (caseC g e temp)] w (RetV (.bool true) w) := by
  obtain ⟨W0, hW0⟩ : ∃ W, w.alloc (.cells (caseC g e temp) 43) = W := ⟨_, rfl⟩
  have K0 : Below w.heap.size w W0 := by rw [← hW0]; exact (Below.refl _ _).alloc (Nat.le_refl _) _
  have b0 : Blk W0 w.heap.size 43 (caseC g e temp) := by rw [← hW0]; exact Blk.new _ _ _
  have hG := Lib.hid (lGreat25 g e temp W0 hn.2.1.1 hn.1.1.1 hn.1.2.1.1 hn.1.2.2.1.1 hn.1.2.2.2.1.1 hn.1.2.2.2.2.1)
  have HH : Hid (∀ W, Below w.heap.size w W → Calls Tryd.prog 7 #[] W (RetV (.bool true) W)) := Lib.hid fun W hb => lHead B W (hL.on (hb.mono hB)) (Nat.le_trans hB hb.size)
  have HD : Hid (∀ W, Below w.heap.size w W → Calls Tryd.prog 14 #[.agg e.cells] W (RetV (.int .i64 (tempsV e)) W)) := Lib.hid fun W hb =>
    dTemps e B W (hi.below (hb.mono hB)) (Nat.le_trans hB hb.size) hL.2.2.1 (hL.2.2.2.below (hb.mono hB) hL.2.2.1)
  have HCO : Hid (∀ W, Below w.heap.size w W → Calls Tryd.prog 12 #[.agg e.cells, .slice g.Av g.vars.length g.cv, .agg g.s.cells, .int .i64 g.frame, .int .i64 temp, .string (strB g.label)] W (RetCode g e temp W)) := Lib.hid fun W hb => by
    have hKB := hb.mono hB
    exact gGenCode g e temp B W (hi.below hKB) ⟨hn.1.below hKB, ⟨hn.2.1.1, hn.2.1.2.1.below hKB, hn.2.1.2.2⟩, hn.2.2⟩ (hL.on hKB) (Nat.le_trans hB hb.size) hti
  have HK0 := Lib.hid K0
  have HB0 := Lib.hid b0
  simp only [caseC] at b0 hW0 hG HB0 ⊢
  simp only [KE.cells] at HD HCO
  simp only [SpL.cells] at HCO
  have c0 := b0.cell 0
  have c1 := b0.cell 1
  have c2 := b0.cell 2
  have c3 := b0.cell 3
  have c4 := b0.cell 4
  have c5 := b0.cell 5
  have c6 := b0.cell 6
  have c7 := b0.cell 7
  have c8 := b0.cell 8
  have c9 := b0.cell 9
  have c10 := b0.cell 10
  have c11 := b0.cell 11
  have c12 := b0.cell 12
  have c13 := b0.cell 13
  have c14 := b0.cell 14
  simp at c0 c1 c2 c3 c4 c5 c6 c7 c8 c9 c10 c11 c12 c13 c14
  have hlt := b0.lt
  clear b0 K0 hi hn hL
  generalize hgr : greatG g = gr at *
  clear hgr
  obtain ⟨SL, hSL⟩ : ∃ S, strB g.label = S := ⟨_, rfl⟩
  simp only [hSL] at c14 HB0 hW0 hG HCO ⊢
  cases gr with
  | true =>
    go_enter Tryd.func5, Tryd.ntmps5
    go_wp2_with first
      | (go_at_call 13; (with_reducible refine hG.out.mono ?_); rintro e1 w1 ⟨rfl, hb1⟩
         have K1 := Lib.hid (HK0.out.trans (hb1.mono HK0.out.size))
         clear hb1)
      | (go_at_call 7; (with_reducible refine (HH.out _ K1.out).mono ?_); rintro e2 w2 ⟨rfl, hb2⟩)
    go_ret
    exact ⟨rfl, K1.out.trans (hb2.mono K1.out.size)⟩
  | false =>
    by_cases he : errC g e temp = 0
    · have hval := errC_valid he
      have hbd := errC_bounds he
      have hdep : tempsV e = tempsE e := by unfold tempsV; rw [hval]; rfl
      have hT : tempsE e ≤ 256 := by
        unfold validE at hval
        cases hr : roomE 0 256 e with
        | none => rw [hr] at hval; cases hval
        | some r => have := tempsE_le' hr; omega
      have hcl := (code_len g.env e temp 0).1
      have hnd := valid_nodes hval
      have HC2 : Hid (∀ W, Below w.heap.size w W → Calls Tryd.prog 12 #[.agg #[.int .u8 e.kind, .int .u8 e.oper, .int .u8 e.tk, .int .i32 e.n, .int .i64 e.v, .slice e.A e.l.length e.c], .slice g.Av g.vars.length g.cv, .agg #[.slice g.s.Af g.s.fr.length g.s.cf, .slice g.s.A1 g.s.vat.length g.s.c1, .slice g.s.A2 g.s.vin.length g.s.c2, .slice g.s.A3 g.s.cat.length g.s.c3, .slice g.s.A4 g.s.cin.length g.s.c4], .int .i64 g.frame, .int .i64 temp, .string SL] W
          (fun en w' => Below W.heap.size W w' ∧ ∃ A c, en = .returned (.tuple #[.slice A (codeE g.env e temp 0).1.length c, .int .i64 0]) ∧ w'.ownsRow W.heap.size 51 5 (.slice A (codeE g.env e temp 0).1.length c) (codeE g.env e temp 0).1.length (linesL (codeE g.env e temp 0).1))) := Lib.hid fun W hb => (HCO.out W hb).mono fun en w' h => by
        rcases h.2 with h2 | h2
        · exact absurd he h2.1
        · obtain ⟨-, A, c, h3, h4⟩ := h2
          rw [he] at *
          exact ⟨h.1, A, c, h3, h4⟩
      have HFT : Hid (∀ x ∈ (codeE g.env e temp 0).1, x.fn ≠ 14 ∧ x.frm = [] ∧ (x.fn = 13 → temp ≤ x.arg ∧ x.arg < temp + tempsE e)) := Lib.hid (code_temps g.env e temp 0)
      have HLB : Hid (∀ x ∈ (codeE g.env e temp 0).1, x.label ≠ [] → ∀ W, Calls Tryd.prog 15 #[.string (strB x.label), .string SL] W (RetQ (.bool true) W)) := Lib.hid fun x hx hne W => by
        obtain ⟨j, -, -, hj⟩ := (code_labs g.env e temp 0).2.2 x.label (mem_labs.2 ⟨hne, x, hx, rfl⟩)
        rw [hj, ← hSL]
        have := lOwn g.label (Lib.decDigits j) (decDigits_ne j) (by omega) W
        simpa [freshL, EmL.env] using this
      have HLT : Hid (∀ (k : Nat) (x : LineL), (codeE g.env e temp 0).1[k]? = some x → x.target ≠ [] → x.target ≠ stopT → ∀ (A : Option Addr) (c : Nat) (W : World), Reads W W.heap.size 5 A (codeE g.env e temp 0).1.length (linesL (codeE g.env e temp 0).1) →
          Calls Tryd.prog 16 #[.slice A (codeE g.env e temp 0).1.length c, .int .i64 ((k : Int) + 1), .string (strB x.target)] W (RetQ (.bool true) W)) := Lib.hid fun k x hx h1 h2 A c W hr => by
        obtain ⟨q, y, hq1, hq2, hq3, hq4⟩ := later_of (code_jumps g.env e temp 0) (code_labs g.env e temp 0).2.1 hx h1 h2
        have hk := (List.getElem?_eq_some_iff.1 hx).1
        exact lLater _ A _ c (by omega) (k + 1) x.target (by omega) q y hq1 hq2 hq3 hq4 W hr
      rw [hdep] at HD
      have HTB : Hid (0 ≤ temp ∧ temp ≤ 65535) := Lib.hid ⟨hbd.1, hbd.2.1⟩
      have ht0 : -9223372036854775808 ≤ temp ∧ temp ≤ 65535 := by omega
      clear HCO he hdep hbd hti
      generalize (codeE g.env e temp 0).1 = ls at *
      generalize tempsE e = T at *
      obtain ⟨N, hN⟩ : ∃ N, ls.length = N := ⟨_, rfl⟩
      rw [hN] at HC2 hcl HLT
      have HN := Lib.hid hN
      have hN0 : N ≤ 100000 := by omega
      clear hN hcl hnd hval hSL
      go_enter Tryd.func5, Tryd.ntmps5
      go_wp2_with first
        | (go_at_call 13; (with_reducible refine hG.out.mono ?_); rintro e1 w1 ⟨rfl, hb1⟩
           have K1 := Lib.hid (HK0.out.trans (hb1.mono HK0.out.size))
           have B1 := Lib.hid (HB0.out.call hb1)
           have b1 := B1.out
           have d0 := b1.cell 0
           have d1 := b1.cell 1
           have d2 := b1.cell 2
           have d3 := b1.cell 3
           have d4 := b1.cell 4
           have d5 := b1.cell 5
           have d6 := b1.cell 6
           have d7 := b1.cell 7
           have d8 := b1.cell 8
           have d9 := b1.cell 9
           have d10 := b1.cell 10
           have d11 := b1.cell 11
           have d12 := b1.cell 12
           have d13 := b1.cell 13
           have d14 := b1.cell 14
           simp at d0 d1 d2 d3 d4 d5 d6 d7 d8 d9 d10 d11 d12 d13 d14
           clear hb1 b1)
        | (go_at_call 12; (with_reducible refine (HC2.out _ K1.out).mono ?_); rintro e2 w2 ⟨hb2, A, cp, rfl, ho⟩
           have HB2 := Lib.hid (Below.refl w1.heap.size w1 |>.trans hb2)
           have HO2 := Lib.hid ho
           have K2 := Lib.hid (K1.out.trans (hb2.mono K1.out.size))
           clear hb2 ho)
      go_loopw [5] (fun i wr => ∃ k : Nat, k ≤ N ∧ i = .int .i64 k ∧ Hid (Below w1.heap.size w1 wr) ∧ Hid (wr.ownsRow w1.heap.size 51 5 (.slice A N cp) N (linesL ls))) (fun i _ => N - (intOf i).toNat)
      case atStart => exact ⟨0, Nat.zero_le _, rfl, HB2, HO2⟩
      case round =>
        clear HB2 HO2 K2
        obtain ⟨k, hk, rfl, K, O⟩ := hrel
        have KW := Lib.hid (K1.out.trans (K.out.mono K1.out.size))
        by_cases hlt : k < N
        · have hltI : (k : Int) < N := by omega
          have hkN : ¬ N ≤ k := by omega
          obtain ⟨b, off, x, hA, hb, hx, l0, l1, l2, l3, l4⟩ := line_atR (Reads.of_own O.out) (by rw [HN.out]; exact hlt) HN.out
          have HX := Lib.hid hx
          have hxm := List.mem_of_getElem? hx
          have hft := HFT.out x hxm
          have HA := Lib.hid hA
          rw [hA]
          obtain ⟨W1, hW1⟩ : ∃ W, wr.alloc (.cells (lineC x) 51) = W := ⟨_, rfl⟩
          have b0 : Blk W1 wr.heap.size 51 (lineC x) := by rw [← hW1]; exact Blk.new wr _ _
          have KA : Below wr.heap.size wr W1 := by rw [← hW1]; exact (Below.refl _ _).alloc (Nat.le_refl _) _
          have hbs : b < wr.heap.size := hb
          simp only [lineC] at b0 hW1
          have e0 := b0.cell 0
          have e1 := b0.cell 1
          have e2 := b0.cell 2
          have e3 := b0.cell 3
          have e4 := b0.cell 4
          simp at e0 e1 e2 e3 e4
          have hwl := b0.lt
          have HKA := Lib.hid KA
          have bi := B1.out.below K.out B1.out.lt
          have bj := bi.call KA
          have hbj := bj.lt
          have f0 := bj.cell 0
          have f1 := bj.cell 1
          have f2 := bj.cell 2
          have f3 := bj.cell 3
          have f4 := bj.cell 4
          have f5 := bj.cell 5
          have f6 := bj.cell 6
          have f7 := bj.cell 7
          have f8 := bj.cell 8
          have f9 := bj.cell 9
          have f10 := bj.cell 10
          have f11 := bj.cell 11
          have f12 := bj.cell 12
          have f13 := bj.cell 13
          have f14 := bj.cell 14
          simp at f0 f1 f2 f3 f4 f5 f6 f7 f8 f9 f10 f11 f12 f13 f14
          have how : x.label.isEmpty = false → ∀ W, Calls Tryd.prog 15 #[.string (strB x.label), .string SL] W (RetQ (.bool true) W) := fun h => HLB.out x hxm (by intro h2; rw [h2] at h; simp at h)
          have HLA := Lib.hid (HLT.out k x hx)
          have et := strB_empty x.target
          have el := strB_empty x.label
          clear hA hx hxm KA b0 bi bj
          obtain ⟨F, hF⟩ : ∃ F : Int, (x.fn : Int) = F := ⟨_, rfl⟩
          have h14 : ¬ F = 14 := by rw [← hF]; omega
          have h14b : (F == 14) = false := by simpa using h14
          simp only [hF] at hW1 e1 l1
          have HF2 := Lib.hid hF
          clear hF
          have hag : F = 13 → ¬ x.arg < temp ∧ ¬ temp + T ≤ x.arg ∧ -9223372036854775808 ≤ x.arg ∧ x.arg ≤ 2147483647 := fun h => by
            have h1 := hft.2.2 (by have := HF2.out; omega)
            omega
          obtain ⟨zl, hzl⟩ : ∃ z, x.label.isEmpty = z := ⟨_, rfl⟩
          have HZL := Lib.hid hzl
          rw [hzl] at el how
          have HOW := Lib.hid how
          clear how
          obtain ⟨zt, hzt⟩ : ∃ z, x.target.isEmpty = z := ⟨_, rfl⟩
          have HZT := Lib.hid hzt
          rw [hzt] at et
          obtain ⟨zs, hzs⟩ : ∃ b, (x.target == stopT) = b := ⟨_, rfl⟩
          have es : ((strB x.target).toList == [115, 116, 111, 112]) = zs := by rw [ByteArray.toList_eq]; exact hzs
          have HZS := Lib.hid hzs
          have HAG := Lib.hid hag
          generalize strB x.label = SB at *
          generalize strB x.target = ST at *
          generalize strB x.frm = SF at *
          generalize x.arg = arg at *
          clear hzl hzt hzs hag hft
          by_cases h13 : F = 13
          all_goals first
            | (subst h13; obtain ⟨ha1, ha2, ha3, ha4⟩ := HAG.out rfl)
            | (have h13b : (F == 13) = false := by simpa using h13)
          all_goals cases zl
          all_goals
            go_upto_region 10 with fail
            obtain ⟨ι, F', i0', h0', hFb, hcl⟩ := fam_below W1
            haveI : Nonempty ι := ⟨i0'⟩
            have P0 : ∀ i, (F' i).cell? ⟨wr.heap.size, 0, none⟩ = some (.string SB) := fun i => ((bcell (hFb i)).1 _ _ hwl).trans e0
            have P1 : ∀ i, (F' i).cell? ⟨wr.heap.size, 1, none⟩ = _ := fun i => ((bcell (hFb i)).1 _ _ hwl).trans e1
            have P2 : ∀ i, (F' i).cell? ⟨wr.heap.size, 2, none⟩ = some (.int .i32 arg) := fun i => ((bcell (hFb i)).1 _ _ hwl).trans e2
            have Q0 : ∀ i, (F' i).cell? ⟨w.heap.size, 0, none⟩ = _ := fun i => ((bcell (hFb i)).1 _ _ hbj).trans f0
            have Q1 : ∀ i, (F' i).cell? ⟨w.heap.size, 1, none⟩ = _ := fun i => ((bcell (hFb i)).1 _ _ hbj).trans f1
            have Q2 : ∀ i, (F' i).cell? ⟨w.heap.size, 2, none⟩ = _ := fun i => ((bcell (hFb i)).1 _ _ hbj).trans f2
            have Q3 : ∀ i, (F' i).cell? ⟨w.heap.size, 3, none⟩ = _ := fun i => ((bcell (hFb i)).1 _ _ hbj).trans f3
            have Q4 : ∀ i, (F' i).cell? ⟨w.heap.size, 4, none⟩ = _ := fun i => ((bcell (hFb i)).1 _ _ hbj).trans f4
            have Q5 : ∀ i, (F' i).cell? ⟨w.heap.size, 5, none⟩ = _ := fun i => ((bcell (hFb i)).1 _ _ hbj).trans f5
            have Q13 : ∀ i, (F' i).cell? ⟨w.heap.size, 13, none⟩ = _ := fun i => ((bcell (hFb i)).1 _ _ hbj).trans f13
            have Q14 : ∀ i, (F' i).cell? ⟨w.heap.size, 14, none⟩ = _ := fun i => ((bcell (hFb i)).1 _ _ hbj).trans f14
            have HFB := Lib.hid hFb
            have HKF := Lib.hid (fun i => (KW.out.trans (HKA.out.mono KW.out.size)).trans ((hFb i).mono (Nat.le_trans KW.out.size HKA.out.size)))
            clear hFb
            refine wp_region_quiet_fam F' i0' h0' (by kernel_rfl) (by kernel_rfl) ?_
            repeat (go_big_quiet_step (first
              | (go_at_call 14; (with_reducible refine (HD.out _ (HKF.out _)).mono ?_); rintro e3 w3 ⟨rfl, hb3⟩; exact ⟨rfl, hcl _ _ hb3⟩)
              | (go_at_call 15; (with_reducible refine (HOW.out rfl _).mono ?_); rintro e3 w3 ⟨rfl, rfl⟩; exact ⟨rfl, _, rfl⟩)))
            refine wpQuiet_nil ?_
            intro i
            have KI := HKF
            have KJ := Lib.hid ((K.out.trans (HKA.out.mono K.out.size)).trans ((HFB.out i).mono (Nat.le_trans K.out.size HKA.out.size)))
            have OI := Lib.hid ((O.out.below HKA.out).below (HFB.out i))
            have t3 := ((bcell (HFB.out i)).1 _ 3 hwl).trans e3
            have HLI : Hid (zt = false → zs = false → Calls Tryd.prog 16 #[.slice (some ⟨b, off, none⟩) N cp, .int .i64 ((k : Int) + 1), .string ST] (F' i) (RetQ (.bool true) (F' i))) := Lib.hid fun h1 h2 => HLA.out (by intro h; have := HZT.out; rw [h] at this; subst h1; simp at this) (by intro h; have := HZS.out; rw [h] at this; subst h2; simp at this) _ _ _ (by have := Reads.of_own OI.out; rw [HA.out] at this; exact this)
            cases zt <;> cases zs
            all_goals
              go_wp2_with first
                | (go_at_call 16; (with_reducible refine (HLI.out rfl rfl).mono ?_); rintro e5 w5 ⟨rfl, rfl⟩)
              go_roundw
              case rel => exact ⟨k + 1, by omega, by go_num, KJ, by rw [← HA.out]; exact OI⟩
              case measure => simp [intOf]; omega
        · have hltI : ¬ (k : Int) < N := by omega
          have hkN : N ≤ k := by omega
          go_wp2_with first
            | (go_at_call 7; (with_reducible refine (HH.out _ KW.out).mono ?_); rintro e6 w6 ⟨rfl, hb6⟩)
          go_ret
          exact ⟨rfl, KW.out.trans (hb6.mono KW.out.size)⟩
    · have HC2 : Hid (∀ W, Below w.heap.size w W → Calls Tryd.prog 12 #[.agg #[.int .u8 e.kind, .int .u8 e.oper, .int .u8 e.tk, .int .i32 e.n, .int .i64 e.v, .slice e.A e.l.length e.c], .slice g.Av g.vars.length g.cv, .agg #[.slice g.s.Af g.s.fr.length g.s.cf, .slice g.s.A1 g.s.vat.length g.s.c1, .slice g.s.A2 g.s.vin.length g.s.c2, .slice g.s.A3 g.s.cat.length g.s.c3, .slice g.s.A4 g.s.cin.length g.s.c4], .int .i64 g.frame, .int .i64 temp, .string SL] W
          (RetV (.tuple #[.slice none 0 0, .int .i64 (errC g e temp)]) W)) := Lib.hid fun W hb => (HCO.out W hb).mono fun en w' h => by
        rcases h.2 with h2 | h2
        · exact ⟨h2.2, h.1⟩
        · exact absurd h2.1 he
      have hne : (errC g e temp == 0) = false := by simpa using he
      generalize errC g e temp = ER at *
      clear HCO HD he
      go_enter Tryd.func5, Tryd.ntmps5
      go_wp2_with first
        | (go_at_call 13; (with_reducible refine hG.out.mono ?_); rintro e1 w1 ⟨rfl, hb1⟩
           have K1 := Lib.hid (HK0.out.trans (hb1.mono HK0.out.size))
           have b1 := HB0.out.call hb1
           have d0 := b1.cell 0
           have d1 := b1.cell 1
           have d2 := b1.cell 2
           have d3 := b1.cell 3
           have d4 := b1.cell 4
           have d5 := b1.cell 5
           have d6 := b1.cell 6
           have d7 := b1.cell 7
           have d8 := b1.cell 8
           have d9 := b1.cell 9
           have d10 := b1.cell 10
           have d11 := b1.cell 11
           have d12 := b1.cell 12
           have d13 := b1.cell 13
           have d14 := b1.cell 14
           simp at d0 d1 d2 d3 d4 d5 d6 d7 d8 d9 d10 d11 d12 d13 d14
           clear hb1 b1)
        | (go_at_call 12; (with_reducible refine (HC2.out _ K1.out).mono ?_); rintro e2 w2 ⟨rfl, hb2⟩
           have K2 := Lib.hid (K1.out.trans (hb2.mono K1.out.size))
           clear hb2)
        | (go_at_call 7; (with_reducible refine (HH.out _ K2.out).mono ?_); rintro e3 w3 ⟨rfl, hb3⟩)
      go_ret
      exact ⟨rfl, K2.out.trans (hb3.mono K2.out.size)⟩
end Go.Proofs.YtbefmlioampgcaaDoor
