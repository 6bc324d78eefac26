/- GenexpRegisters, walked. -/
import Derived.Test.YtbefmlioampgcaaDoorHDB
import Derived.Test.YtbefmlioampgcaaDoorHK12
namespace Go.Proofs.YtbefmlioampgcaaDoor
open Go.RowKit
set_option linter.unusedVariables false
set_option linter.unusedSimpArgs false

theorem regN_step {D m q : Nat} {x : LineL} {r : List LineL} (h : regN D m (x :: r) = some q) : ∃ t v, effN x = some (t, v) ∧ t ≤ m ∧ m - t + v ≤ D ∧ regN D (m - t + v) r = some q := by
  rw [regN] at h
  cases he : effN x with
  | none => rw [he] at h; cases h
  | some p =>
    obtain ⟨t, v⟩ := p
    rw [he] at h
    simp only at h
    split at h
    · cases h
    · exact ⟨t, v, rfl, by omega, by omega, h⟩
theorem effV_of {x : LineL} {t v : Nat} (h : effN x = some (t, v)) : effectV (findI (x.fn : Int) x.arg) = .tuple #[.int .i64 t, .int .i64 v, .bool true] := by
  unfold effN at h
  cases hf : findI (x.fn : Int) x.arg with
  | none => rw [hf] at h; cases h
  | some r =>
    rw [hf] at h
    simp at h
    obtain ⟨rfl, rfl⟩ := h
    rfl
/-- A line of a row: where its cells lie. -/
theorem line_atR {w : World} {B n : Nat} {A : Option Addr} {ls : List LineL} (h : Reads w B 5 A n (linesL ls)) {k : Nat} (hk : k < ls.length) (hn : ls.length = n) :
    ∃ b off x, A = some ⟨b, off, none⟩ ∧ b < B ∧ ls[k]? = some x ∧ w.cell? ⟨b, off + k * 5, none⟩ = some (.string (strB x.label)) ∧ w.cell? ⟨b, off + k * 5 + 1, none⟩ = some (.int .u8 x.fn) ∧ w.cell? ⟨b, off + k * 5 + 2, none⟩ = some (.int .i32 x.arg) ∧
      w.cell? ⟨b, off + k * 5 + 3, none⟩ = some (.string (strB x.target)) ∧ w.cell? ⟨b, off + k * 5 + 4, none⟩ = some (.string (strB x.frm)) := by
  subst hn
  obtain ⟨b, off, x, h1, h2, h3, h4, hc⟩ := row_at (f := fun x => (lineC x).toList) (size := 5) (fun _ => rfl) (by decide) h hk
  exact ⟨b, off, x, h1, h2, h3, hc 0 _ rfl, hc 1 _ rfl, hc 2 _ rfl, hc 3 _ rfl, hc 4 _ rfl⟩
theorem errC_valid {g : EmL} {e : KE} {temp : Int} (h : errC g e temp = 0) : validE e = true := by
  unfold errC at h
  split at h
  · cases h
  · rename_i hc
    simp only [not_or] at hc
    simpa using hc.1
theorem code_fn (env : CEnv) (e : KE) : ∀ (t : Int) (n : Nat), ∀ x ∈ (codeE env e t n).1, x.fn ≤ 255 := by
  induction e using KE.ind with
  | h e ih =>
    intro t n
    have hO : ∀ x ∈ operL e.oper, x.fn ≤ 255 := fun x hx => by have := (oper_mem hx).2.2.2; omega
    match hl : e.l with
    | [] =>
      rw [codeE_0 env hl]
      split <;> simp [lnF]
    | [a] =>
      rw [codeE_1 env hl]
      intro x hx
      rcases List.mem_append.1 hx with hx | hx
      · exact ih a (by rw [hl]; simp) t n x hx
      · have := (after_mem hx).2.2.2; omega
    | a :: b :: r =>
      have hia := ih a (by rw [hl]; simp)
      have hib := ih b (by rw [hl]; simp)
      rw [codeE_2 env hl]
      by_cases h20 : e.oper = 20 ∨ e.oper = 21
      · rw [if_pos h20]
        by_cases h21 : e.oper = 21
        · simp only [if_pos h21]
          intro x hx
          simp only [List.mem_append, List.mem_cons, List.not_mem_nil, or_false] at hx
          rcases hx with hx | rfl | rfl | hx | rfl | rfl
          · exact hia _ _ x hx
          · simp [lnF]
          · simp [lnJ]
          · exact hib _ _ x hx
          · simp [lnF]
          · simp
        · simp only [if_neg h21]
          intro x hx
          simp only [List.mem_append, List.mem_cons, List.not_mem_nil, or_false] at hx
          rcases hx with hx | rfl | hx | rfl
          · exact hia _ _ x hx
          · simp [lnJ]
          · exact hib _ _ x hx
          · simp
      · rw [if_neg h20]
        by_cases h33 : regsE a = 3 ∧ regsE b = 3
        · rw [if_pos h33]
          simp only
          intro x hx
          simp only [List.mem_append, List.mem_cons, List.not_mem_nil, or_false] at hx
          rcases hx with hx | rfl | hx | rfl | hx
          · exact hib _ _ x hx
          · simp [lnF]
          · exact hia _ _ x hx
          · simp [lnF]
          · exact hO x hx
        · rw [if_neg h33]
          by_cases hlt : regsE a < regsE b
          · rw [if_pos hlt]
            simp only
            intro x hx
            simp only [List.mem_append, List.mem_cons, List.not_mem_nil, or_false] at hx
            rcases hx with hx | hx | rfl | hx
            · exact hib _ _ x hx
            · exact hia _ _ x hx
            · simp [lnO, lnF]
            · exact hO x hx
          · rw [if_neg hlt]
            simp only
            intro x hx
            simp only [List.mem_append] at hx
            rcases hx with hx | hx | hx
            · exact hia _ _ x hx
            · exact hib _ _ x hx
            · exact hO x hx
set_option maxRecDepth 100000 in
set_option maxHeartbeats 8000000 in
theorem lRegisters (g : EmL) (e : KE) (temp : Int) (B : Nat) (w : World) (hi : e.In w B) (hn : EnvIn0 g w B) (hti : i64ok temp) (hL : LaidG B w) (hB : B ≤ w.heap.size) :
    Calls Tryd.prog 6 #[.agg (caseC g e temp)] w (RetV (.bool true) w) := by
  obtain ⟨W0, hW0⟩ : ∃ W, w.alloc (.cells (caseC g e temp) 43) = W := ⟨_, rfl⟩
  have K0 : Below w.heap.size w W0 := by rw [← hW0]; exact (Below.refl _ _).alloc (Nat.le_refl _) _
  have b0 : Blk W0 w.heap.size 43 (caseC g e temp) := by rw [← hW0]; exact Blk.new _ _ _
  have hG := Lib.hid (lGreat25 g e temp W0 hn.2.1.1 hn.1.1.1 hn.1.2.1.1 hn.1.2.2.1.1 hn.1.2.2.2.1.1 hn.1.2.2.2.2.1)
  have HH : Hid (∀ W, Below w.heap.size w W → Calls Tryd.prog 7 #[] W (RetV (.bool true) W)) := Lib.hid fun W hb => lHead B W (hL.on (hb.mono hB)) (Nat.le_trans hB hb.size)
  have HD : Hid (∀ W, Below w.heap.size w W → Calls Tryd.prog 18 #[.agg e.cells] W (RetV (.int .i64 (depthV e)) W)) := Lib.hid fun W hb =>
    dDepth e B W (hi.below (hb.mono hB)) (Nat.le_trans hB hb.size) hL.2.2.1 (hL.2.2.2.below (hb.mono hB) hL.2.2.1)
  have HEF : Hid (∀ (W : World) (x : LineL), Below w.heap.size w W → x.fn ≤ 255 → Calls Tryd.prog 17 #[.agg #[.int .u8 x.fn, .int .i32 x.arg]] W (RetV (effectV (findI (x.fn : Int) x.arg)) W)) := Lib.hid fun W x hb hx =>
    pEffectW (x.fn : Int) x.arg ⟨by omega, by omega⟩ B W (hL.1.on (hb.mono hB)) (Nat.le_trans hB hb.size)
  have HCO : Hid (∀ W, Below w.heap.size w W → Calls Tryd.prog 12 #[.agg e.cells, .slice g.Av g.vars.length g.cv, .agg g.s.cells, .int .i64 g.frame, .int .i64 temp, .string (strB g.label)] W (RetCode g e temp W)) := Lib.hid fun W hb => by
    have hKB := hb.mono hB
    exact gGenCode g e temp B W (hi.below hKB) ⟨hn.1.below hKB, ⟨hn.2.1.1, hn.2.1.2.1.below hKB, hn.2.1.2.2⟩, hn.2.2⟩ (hL.on hKB) (Nat.le_trans hB hb.size) hti
  have HK0 := Lib.hid K0
  have HB0 := Lib.hid b0
  simp only [caseC] at b0 hW0 hG HB0 ⊢
  simp only [KE.cells] at HD HCO
  simp only [SpL.cells] at HCO
  have c0 := b0.cell 0
  have c1 := b0.cell 1
  have c2 := b0.cell 2
  have c3 := b0.cell 3
  have c4 := b0.cell 4
  have c5 := b0.cell 5
  have c6 := b0.cell 6
  have c7 := b0.cell 7
  have c8 := b0.cell 8
  have c9 := b0.cell 9
  have c10 := b0.cell 10
  have c11 := b0.cell 11
  have c12 := b0.cell 12
  have c13 := b0.cell 13
  have c14 := b0.cell 14
  simp at c0 c1 c2 c3 c4 c5 c6 c7 c8 c9 c10 c11 c12 c13 c14
  have hlt := b0.lt
  clear b0 K0 hi hn hL
  generalize hgr : greatG g = gr at *
  clear hgr
  generalize strB g.label = SL at *
  cases gr with
  | true =>
    go_enter Tryd.func6, Tryd.ntmps6
    go_wp2_with first
      | (go_at_call 13; (with_reducible refine hG.out.mono ?_); rintro e1 w1 ⟨rfl, hb1⟩
         have K1 := Lib.hid (HK0.out.trans (hb1.mono HK0.out.size))
         clear hb1)
      | (go_at_call 7; (with_reducible refine (HH.out _ K1.out).mono ?_); rintro e2 w2 ⟨rfl, hb2⟩)
    go_ret
    exact ⟨rfl, K1.out.trans (hb2.mono K1.out.size)⟩
  | false =>
    by_cases he : errC g e temp = 0
    · have hval := errC_valid he
      have hdep : depthV e = regsE e := by unfold depthV; rw [hval]; rfl
      have hall : e.all (fun x => fieldsB x = true) := by
        unfold validE at hval
        cases hr : roomE 0 256 e with
        | none => rw [hr] at hval; cases hval
        | some r => exact roomE_all e hr
      have hcl := (code_len g.env e temp 0).1
      have hnd := valid_nodes hval
      have hreg := regN_code g.env e hall (regsE e) 0 temp 0 (by omega)
      have hfn := code_fn g.env e temp 0
      have hD3 := (regsE_le e).2
      have HC2 : Hid (∀ W, Below w.heap.size w W → Calls Tryd.prog 12 #[.agg #[.int .u8 e.kind, .int .u8 e.oper, .int .u8 e.tk, .int .i32 e.n, .int .i64 e.v, .slice e.A e.l.length e.c], .slice g.Av g.vars.length g.cv, .agg #[.slice g.s.Af g.s.fr.length g.s.cf, .slice g.s.A1 g.s.vat.length g.s.c1, .slice g.s.A2 g.s.vin.length g.s.c2, .slice g.s.A3 g.s.cat.length g.s.c3, .slice g.s.A4 g.s.cin.length g.s.c4], .int .i64 g.frame, .int .i64 temp, .string SL] W
          (fun en w' => Below W.heap.size W w' ∧ ∃ A c, en = .returned (.tuple #[.slice A (codeE g.env e temp 0).1.length c, .int .i64 0]) ∧ w'.ownsRow W.heap.size 51 5 (.slice A (codeE g.env e temp 0).1.length c) (codeE g.env e temp 0).1.length (linesL (codeE g.env e temp 0).1))) := Lib.hid fun W hb => (HCO.out W hb).mono fun en w' h => by
        rcases h.2 with h2 | h2
        · exact absurd he h2.1
        · obtain ⟨-, A, c, h3, h4⟩ := h2
          rw [he] at *
          exact ⟨h.1, A, c, h3, h4⟩
      rw [hdep] at HD
      clear HCO he hdep hall
      generalize (codeE g.env e temp 0).1 = ls at *
      generalize regsE e = D at *
      have HREG := Lib.hid hreg
      have HFN := Lib.hid hfn
      obtain ⟨N, hN⟩ : ∃ N, ls.length = N := ⟨_, rfl⟩
      rw [hN] at HC2 hcl
      have HN := Lib.hid hN
      have hN0 : N ≤ 100000 := by omega
      clear hreg hfn hN hcl hnd hval
      go_enter Tryd.func6, Tryd.ntmps6
      go_wp2_with first
        | (go_at_call 13; (with_reducible refine hG.out.mono ?_); rintro e1 w1 ⟨rfl, hb1⟩
           have K1 := Lib.hid (HK0.out.trans (hb1.mono HK0.out.size))
           have B1 := Lib.hid (HB0.out.call hb1)
           have b1 := B1.out
           have d0 := b1.cell 0
           have d1 := b1.cell 1
           have d2 := b1.cell 2
           have d3 := b1.cell 3
           have d4 := b1.cell 4
           have d5 := b1.cell 5
           have d6 := b1.cell 6
           have d7 := b1.cell 7
           have d8 := b1.cell 8
           have d9 := b1.cell 9
           have d10 := b1.cell 10
           have d11 := b1.cell 11
           have d12 := b1.cell 12
           have d13 := b1.cell 13
           have d14 := b1.cell 14
           simp at d0 d1 d2 d3 d4 d5 d6 d7 d8 d9 d10 d11 d12 d13 d14
           clear hb1 b1)
        | (go_at_call 12; (with_reducible refine (HC2.out _ K1.out).mono ?_); rintro e2 w2 ⟨hb2, A, cp, rfl, ho⟩
           have HB2 := Lib.hid (Below.refl w1.heap.size w1 |>.trans hb2)
           have HO2 := Lib.hid ho
           have K2 := Lib.hid (K1.out.trans (hb2.mono K1.out.size))
           clear hb2 ho)
      go_loopw [5, 6] (fun n i wr => ∃ k m : Nat, k ≤ N ∧ m ≤ 3 ∧ n = .int .i64 m ∧ i = .int .i64 k ∧ Hid (regN D m (ls.drop k) = some 1) ∧ Hid (Below w1.heap.size w1 wr) ∧ Hid (wr.ownsRow w1.heap.size 51 5 (.slice A N cp) N (linesL ls))) (fun _ i _ => N - (intOf i).toNat)
      case atStart => exact ⟨0, 0, Nat.zero_le _, Nat.zero_le _, rfl, rfl, HREG, HB2, HO2⟩
      case round =>
        clear HB2 HO2 K2
        obtain ⟨k, m, hk, hm3, rfl, rfl, R, K, O⟩ := hrel
        have KW := Lib.hid (K1.out.trans (K.out.mono K1.out.size))
        by_cases hlt : k < N
        · have hltI : (k : Int) < N := by omega
          have hkN : ¬ N ≤ k := by omega
          obtain ⟨b, off, x, hA, hb, hx, l0, l1, l2, l3, l4⟩ := line_atR (Reads.of_own O.out) (by rw [HN.out]; exact hlt) HN.out
          have hdr : ls.drop k = x :: ls.drop (k + 1) := by
            obtain ⟨h1, h2⟩ := List.getElem?_eq_some_iff.1 hx
            rw [List.drop_eq_getElem_cons h1, h2]
          have hR := R.out
          rw [hdr] at hR
          obtain ⟨t, v, hef, ht1, ht2, hR2⟩ := regN_step hR
          have HE1 : Hid (∀ W, Below w.heap.size w W → Calls Tryd.prog 17 #[.agg #[.int .u8 x.fn, .int .i32 x.arg]] W (RetV (.tuple #[.int .i64 t, .int .i64 v, .bool true]) W)) := Lib.hid fun W hb => by
            rw [← effV_of hef]
            exact HEF.out W x hb (HFN.out x (List.mem_of_getElem? hx))
          have R2 := Lib.hid hR2
          have HA := Lib.hid hA
          rw [hA]
          clear hA hx hdr hR hef hR2
          have hq1 : ¬ (m : Int) < t := by omega
          have hq2 : ¬ m < t := by omega
          have hq3 : ¬ (D : Int) < (m : Int) - t + v := by omega
          obtain ⟨ι, F, i0', h0', hFb, hcl⟩ := fam_below wr
          haveI : Nonempty ι := ⟨i0'⟩
          have F1 : ∀ i, (F i).cell? ⟨b, off + k * 5 + 1, none⟩ = some (.int .u8 x.fn) := fun i => ((bcell (hFb i)).1 _ _ hb).trans l1
          have F2 : ∀ i, (F i).cell? ⟨b, off + k * 5 + 2, none⟩ = some (.int .i32 x.arg) := fun i => ((bcell (hFb i)).1 _ _ hb).trans l2
          have HFB := Lib.hid hFb
          clear hFb l0 l1 l2 l3 l4
          go_upto_region 10 with fail
          refine wp_region_quiet_fam F i0' h0' (by kernel_rfl) (by kernel_rfl) ?_
          repeat (go_big_quiet_step (first
            | (go_at_call 17; (with_reducible refine (HE1.out _ (KW.out.trans ((HFB.out _).mono KW.out.size))).mono ?_); rintro e3 w3 ⟨rfl, hb3⟩; exact ⟨rfl, hcl _ _ hb3⟩)))
          refine wpQuiet_nil ?_
          intro i
          have KI := Lib.hid (KW.out.trans ((HFB.out i).mono KW.out.size))
          have KJ := Lib.hid (K.out.trans ((HFB.out i).mono K.out.size))
          have bi := B1.out.below KJ.out B1.out.lt
          have f0 := bi.cell 0
          have f1 := bi.cell 1
          have f2 := bi.cell 2
          have f3 := bi.cell 3
          have f4 := bi.cell 4
          have f5 := bi.cell 5
          have f6 := bi.cell 6
          have f7 := bi.cell 7
          have f8 := bi.cell 8
          have f9 := bi.cell 9
          have f10 := bi.cell 10
          have f11 := bi.cell 11
          have f12 := bi.cell 12
          have f13 := bi.cell 13
          have f14 := bi.cell 14
          simp at f0 f1 f2 f3 f4 f5 f6 f7 f8 f9 f10 f11 f12 f13 f14
          clear bi
          go_wp2_with first
            | (go_at_call 18; (with_reducible refine (HD.out _ KI.out).mono ?_); rintro e5 w5 ⟨rfl, hb5⟩
               have KZ := Lib.hid (KJ.out.trans (hb5.mono KJ.out.size))
               have OZ := Lib.hid (O.out.below ((HFB.out i).trans (hb5.mono (HFB.out i).size)))
               clear hb5)
          go_roundw
          case rel => exact ⟨k + 1, m - t + v, by omega, by omega, by go_num, by go_num, R2, KZ, by rw [← HA.out]; exact OZ⟩
          case measure => simp [intOf]; omega
        · have hltI : ¬ (k : Int) < N := by omega
          have hkN : N ≤ k := by omega
          have hm1 : (m : Int) = 1 := by
            have hR := R.out
            rw [List.drop_of_length_le (by rw [HN.out]; omega), regN] at hR
            injection hR with hR
            omega
          rw [hm1]
          go_wp2_with first
            | (go_at_call 7; (with_reducible refine (HH.out _ KW.out).mono ?_); rintro e6 w6 ⟨rfl, hb6⟩)
          go_ret
          exact ⟨rfl, KW.out.trans (hb6.mono KW.out.size)⟩
    · have HC2 : Hid (∀ W, Below w.heap.size w W → Calls Tryd.prog 12 #[.agg #[.int .u8 e.kind, .int .u8 e.oper, .int .u8 e.tk, .int .i32 e.n, .int .i64 e.v, .slice e.A e.l.length e.c], .slice g.Av g.vars.length g.cv, .agg #[.slice g.s.Af g.s.fr.length g.s.cf, .slice g.s.A1 g.s.vat.length g.s.c1, .slice g.s.A2 g.s.vin.length g.s.c2, .slice g.s.A3 g.s.cat.length g.s.c3, .slice g.s.A4 g.s.cin.length g.s.c4], .int .i64 g.frame, .int .i64 temp, .string SL] W
          (RetV (.tuple #[.slice none 0 0, .int .i64 (errC g e temp)]) W)) := Lib.hid fun W hb => (HCO.out W hb).mono fun en w' h => by
        rcases h.2 with h2 | h2
        · exact ⟨h2.2, h.1⟩
        · exact absurd h2.1 he
      have hne : (errC g e temp == 0) = false := by simpa using he
      generalize errC g e temp = ER at *
      clear HCO HD HEF he
      go_enter Tryd.func6, Tryd.ntmps6
      go_wp2_with first
        | (go_at_call 13; (with_reducible refine hG.out.mono ?_); rintro e1 w1 ⟨rfl, hb1⟩
           have K1 := Lib.hid (HK0.out.trans (hb1.mono HK0.out.size))
           have b1 := HB0.out.call hb1
           have d0 := b1.cell 0
           have d1 := b1.cell 1
           have d2 := b1.cell 2
           have d3 := b1.cell 3
           have d4 := b1.cell 4
           have d5 := b1.cell 5
           have d6 := b1.cell 6
           have d7 := b1.cell 7
           have d8 := b1.cell 8
           have d9 := b1.cell 9
           have d10 := b1.cell 10
           have d11 := b1.cell 11
           have d12 := b1.cell 12
           have d13 := b1.cell 13
           have d14 := b1.cell 14
           simp at d0 d1 d2 d3 d4 d5 d6 d7 d8 d9 d10 d11 d12 d13 d14
           clear hb1 b1)
        | (go_at_call 12; (with_reducible refine (HC2.out _ K1.out).mono ?_); rintro e2 w2 ⟨rfl, hb2⟩
           have K2 := Lib.hid (K1.out.trans (hb2.mono K1.out.size))
           clear hb2)
        | (go_at_call 7; (with_reducible refine (HH.out _ K2.out).mono ?_); rintro e3 w3 ⟨rfl, hb3⟩)
      go_ret
      exact ⟨rfl, K2.out.trans (hb3.mono K2.out.size)⟩
end Go.Proofs.YtbefmlioampgcaaDoor
