/- Texts that belong together, joined: what each one holds is told ahead of it. -/
import Derived.Test.YtbefmlioampgcaaDoorHSK
import Derived.Test.YtbefmlioampgcaaDoorHK25
set_option linter.unusedVariables false
set_option linter.unusedSimpArgs false
/- The lines of a code are lines that memory can hold; plain. -/
namespace Go.Proofs.YtbefmlioampgcaaDoor
open Go.RowKit
set_option linter.unusedVariables false
set_option linter.unusedSimpArgs false

theorem arg_small {x : LineL} (h : -1000000 ≤ x.arg ∧ x.arg ≤ 1000000) : is32 x.arg := by unfold is32; omega
theorem oper_arg {o : Nat} {x : LineL} (h : x ∈ operL o) : is32 x.arg := by
  refine arg_small ?_
  have hs : -1000000 ≤ singleO o ∧ singleO o ≤ 1000000 := by
    unfold singleO
    have h : ∀ q ∈ ([0, 5, 12, 83, 44, 31, 82, 4, 8, 70, 75, 51, 65, 64] : List Int), -1000000 ≤ q ∧ q ≤ 1000000 := by decide
    rw [List.getD_eq_getElem?_getD]
    cases hq : ([0, 5, 12, 83, 44, 31, 82, 4, 8, 70, 75, 51, 65, 64] : List Int)[o]? with
    | none => simp
    | some q => exact h q (List.mem_of_getElem? hq)
  unfold operL at h
  repeat' split at h
  all_goals
    simp only [List.mem_cons, List.not_mem_nil, or_false] at h
    first
      | (subst h; exact hs)
      | (subst h; simp [lnF, lnO]; done)
      | (rcases h with rfl | rfl <;> simp [lnF, lnO] <;> done)
      | (rcases h with rfl | rfl | rfl <;> simp [lnF, lnO] <;> done)
theorem after_arg {env : CEnv} (hd : ∀ v, is32 (env.dim v)) (ho : ∀ v, is32 (env.off v)) {k o tk : Nat} {v : Int} {x : LineL} (h : x ∈ afterL env k o tk v) : is32 x.arg := by
  unfold afterL at h
  split at h
  · simp only [List.mem_cons, List.not_mem_nil, or_false] at h
    rcases h with rfl | rfl | rfl | rfl | rfl | rfl | rfl
    · exact hd v
    · exact arg_small (by simp [lnF, lnO])
    · exact arg_small (by simp [lnF, lnO])
    · exact arg_small (by simp [lnJ])
    · exact ho v
    · exact arg_small (by simp [lnF, lnO])
    · exact arg_small (by simp [lnF, lnO])
  · refine arg_small ?_
    repeat' split at h
    all_goals
      first
        | exact absurd h List.not_mem_nil
        | (simp only [List.mem_cons, List.not_mem_nil, or_false] at h; rcases h with rfl | rfl | rfl <;> simp [lnF, lnO, lnJ])
        | (simp only [List.mem_cons, List.not_mem_nil, or_false] at h; rcases h with rfl | rfl <;> simp [lnF, lnO, lnJ])
        | (simp only [List.mem_cons, List.not_mem_nil, or_false] at h; subst h; simp [lnF, lnO, lnJ])
theorem code_arg {env : CEnv} (hd : ∀ v, is32 (env.dim v)) (ho : ∀ v, is32 (env.off v)) (e : KE) : e.all (fun x => is32 x.n) → ∀ (t : Int) (n : Nat), 0 ≤ t → t + tempsE e ≤ 1000000 → ∀ x ∈ (codeE env e t n).1, is32 x.arg := by
  induction e using KE.ind with
  | h e ih =>
    intro hall t n ht htM
    obtain ⟨h32, hpa⟩ := KE.all_iff.1 hall
    match hl : e.l with
    | [] =>
      rw [codeE_0 env hl]
      split
      · intro x hx; simp at hx; subst hx; exact h32
      · intro x hx; simp at hx; subst hx; exact ho e.v
    | [a] =>
      rw [codeE_1 env hl]
      intro x hx
      have := (regsE_1 hl).2.1
      rcases List.mem_append.1 hx with hx | hx
      · exact ih a (by rw [hl]; simp) (hpa a (by rw [hl]; simp)) t n ht (by omega) x hx
      · exact after_arg hd ho hx
    | a :: b :: r =>
      have hte := (regsE_2 hl).2.1
      have hia := fun t n => ih a (by rw [hl]; simp) (hpa a (by rw [hl]; simp)) t n
      have hib := fun t n => ih b (by rw [hl]; simp) (hpa b (by rw [hl]; simp)) t n
      rw [codeE_2 env hl]
      by_cases h20 : e.oper = 20 ∨ e.oper = 21
      · have htA : t + tempsE a ≤ 1000000 ∧ t + tempsE b ≤ 1000000 := by
          rw [if_neg (by omega)] at hte; omega
        rw [if_pos h20]
        by_cases h21 : e.oper = 21
        · simp only [if_pos h21]
          intro x hx
          simp only [List.mem_append, List.mem_cons, List.not_mem_nil, or_false] at hx
          rcases hx with hx | rfl | rfl | hx | rfl | rfl
          · exact hia _ _ ht htA.1 x hx
          · exact arg_small (by simp [lnF])
          · exact arg_small (by simp [lnJ])
          · exact hib _ _ ht htA.2 x hx
          · exact arg_small (by simp [lnF])
          · exact arg_small (by simp)
        · simp only [if_neg h21]
          intro x hx
          simp only [List.mem_append, List.mem_cons, List.not_mem_nil, or_false] at hx
          rcases hx with hx | rfl | hx | rfl
          · exact hia _ _ ht htA.1 x hx
          · exact arg_small (by simp [lnJ])
          · exact hib _ _ ht htA.2 x hx
          · exact arg_small (by simp)
      · rw [if_neg h20]
        by_cases h33 : regsE a = 3 ∧ regsE b = 3
        · rw [if_pos (by omega)] at hte
          rw [if_pos h33]
          simp only
          have htI : -2147483648 ≤ t ∧ t ≤ 2147483647 := by omega
          intro x hx
          simp only [List.mem_append, List.mem_cons, List.not_mem_nil, or_false] at hx
          rcases hx with hx | rfl | hx | rfl | hx
          · exact hib _ _ ht (by omega) x hx
          · exact htI
          · exact hia _ _ (by omega) (by omega) x hx
          · exact htI
          · exact oper_arg hx
        · rw [if_neg (by omega)] at hte
          rw [if_neg h33]
          by_cases hlt : regsE a < regsE b
          · rw [if_pos hlt]
            simp only
            intro x hx
            simp only [List.mem_append, List.mem_cons, List.not_mem_nil, or_false] at hx
            rcases hx with hx | hx | rfl | hx
            · exact hib _ _ ht (by omega) x hx
            · exact hia _ _ ht (by omega) x hx
            · exact arg_small (by simp [lnO, lnF])
            · exact oper_arg hx
          · rw [if_neg hlt]
            simp only
            intro x hx
            simp only [List.mem_append] at hx
            rcases hx with hx | hx | hx
            · exact hia _ _ ht (by omega) x hx
            · exact hib _ _ ht (by omega) x hx
            · exact oper_arg hx
theorem fresh_len (env : CEnv) (h : env.label.length ≤ 24) {j : Nat} (hj : j ≤ 1000000) : (freshL env j).length ≤ 100 := by
  unfold freshL
  have := dec_le hj
  simp only [List.length_append, List.length_cons, List.length_nil]
  omega
theorem code_lok (g : EmL) (e : KE) (h32 : e.all (fun x => is32 x.n)) (temp : Int) (he : errC g e temp = 0) : ∀ x ∈ (codeE g.env e temp 0).1, LOk x := by
  have hv := errC_valid he
  have hb := errC_bounds he
  have hlab : g.env.label.length ≤ 24 := hb.2.2.2
  have hT : tempsE e ≤ 256 := Nat.le_trans (tempsE_room e (validE_all hv)) (valid_nodes hv)
  have hcl := (code_len g.env e temp 0).2
  have hnd := valid_nodes hv
  have hlb : ∀ s ∈ labs (codeE g.env e temp 0).1, s.length ≤ 100 := fun s hs => by
    obtain ⟨j, h1, h2, rfl⟩ := (code_labs g.env e temp 0).2.2 s hs
    exact fresh_len g.env hlab (by omega)
  have harg := code_arg (env := g.env) (fun v => by show is32 (wrap32 _); unfold is32 wrap32; omega) (fun v => by show is32 (wrap32 _); unfold is32 wrap32; omega) e h32 temp 0 hb.1 (by omega)
  intro x hx
  obtain ⟨k, hk⟩ := List.mem_iff_getElem?.1 hx
  refine ⟨code_fn g.env e temp 0 x hx, harg x hx, ?_, ?_, ?_⟩
  · by_cases hne : x.label = []
    · rw [hne]; simp
    · have := hlb _ (mem_labs.2 ⟨hne, x, hx, rfl⟩); omega
  · rcases jumps_at (code_jumps g.env e temp 0) hk with h | h | h
    · rw [h]; simp
    · rw [h]; simp [stopT]
    · obtain ⟨h1, y, h2, h3⟩ := mem_labs.1 h
      have := hlb _ (mem_labs.2 ⟨h1, y, List.mem_of_mem_drop h2, h3⟩)
      omega
  · rw [(code_temps g.env e temp 0 x hx).2.1]; simp
end Go.Proofs.YtbefmlioampgcaaDoor

/- GenexpSafe, walked. -/
namespace Go.Proofs.YtbefmlioampgcaaDoor
open Go.RowKit
set_option linter.unusedVariables false
set_option linter.unusedSimpArgs false

theorem i32_all {w : World} {B : Nat} {e : KE} (h : e.In w B) : e.all (fun x => is32 x.n) := KE.all_imp (fun x (hx : x.One w B) => (show is32 x.n from hx.1.2.2.2.1)) e h
set_option maxRecDepth 100000 in
set_option maxHeartbeats 8000000 in
theorem lSafe (g : EmL) (e : KE) (temp : Int) (ss : List RwL) (As : Option Addr) (cs : Nat) (fill : Int) (B : Nat) (w : World) (hi : e.In w B) (hn : EnvIn0 g w B) (hti : i64ok temp) (hsi : rwsIn w B As ss) (hfi : is32 fill) (hL : LaidG B w) (hB : B ≤ w.heap.size) :
    Calls Tryd.prog 4 #[.agg (caseC g e temp), .slice As ss.length cs, .int .i32 fill] w (RetV (.bool true) w) := by
  obtain ⟨W0, hW0⟩ : ∃ W, w.alloc (.cells (caseC g e temp) 43) = W := ⟨_, rfl⟩
  have K0 : Below w.heap.size w W0 := by rw [← hW0]; exact (Below.refl _ _).alloc (Nat.le_refl _) _
  have b0 : Blk W0 w.heap.size 43 (caseC g e temp) := by rw [← hW0]; exact Blk.new _ _ _
  have hEN : ∀ W, Below w.heap.size w W → EnvIn0 g W B := fun W hb => by
    have hKB := hb.mono hB
    exact ⟨hn.1.below hKB, ⟨hn.2.1.1, hn.2.1.2.1.below hKB, hn.2.1.2.2⟩, hn.2.2⟩
  have HLY := lLay g e temp ss As cs fill hfi B W0 (hi.below (K0.mono hB)) (hEN W0 K0) hti (hsi.below (K0.mono hB)) (Nat.le_trans hB K0.size)
  have HH : Hid (∀ W, Below w.heap.size w W → Calls Tryd.prog 7 #[] W (RetV (.bool true) W)) := Lib.hid fun W hb => lHead B W (hL.on (hb.mono hB)) (Nat.le_trans hB hb.size)
  have HSF : Hid (∀ W, Below w.heap.size w W → Calls Tryd.prog 11 #[.agg e.cells] W (RetV (.bool (validE e && safeE e)) W)) := Lib.hid fun W hb =>
    rSafe22 e B W (hi.below (hb.mono hB)) (Nat.le_trans hB hb.size)
  have HCO : Hid (∀ W, Below w.heap.size w W → Calls Tryd.prog 12 #[.agg e.cells, .slice g.Av g.vars.length g.cv, .agg g.s.cells, .int .i64 g.frame, .int .i64 temp, .string (strB g.label)] W (RetCode g e temp W)) := Lib.hid fun W hb => by
    have hKB := hb.mono hB
    exact gGenCode g e temp B W (hi.below hKB) (hEN W hb) (hL.on hKB) (Nat.le_trans hB hb.size) hti
  have h32 := i32_all hi
  have hst : ∀ r ∈ ss, ∀ v ∈ r.l, is32 v := fun r hr => (hsi.2.2 r hr).2.2
  have HK0 := Lib.hid K0
  have HB0 := Lib.hid b0
  simp only [caseC] at b0 hW0 HLY HB0 ⊢
  simp only [KE.cells] at HSF HCO
  simp only [SpL.cells] at HCO
  have c0 := b0.cell 0
  have c1 := b0.cell 1
  have c2 := b0.cell 2
  have c3 := b0.cell 3
  have c4 := b0.cell 4
  have c5 := b0.cell 5
  have c6 := b0.cell 6
  have c7 := b0.cell 7
  have c8 := b0.cell 8
  have c9 := b0.cell 9
  have c10 := b0.cell 10
  have c11 := b0.cell 11
  have c12 := b0.cell 12
  have c13 := b0.cell 13
  have c14 := b0.cell 14
  simp at c0 c1 c2 c3 c4 c5 c6 c7 c8 c9 c10 c11 c12 c13 c14
  have hlt := b0.lt
  obtain ⟨R, hR⟩ : ∃ R, layR g e temp ss fill = R := ⟨_, rfl⟩
  rw [hR] at HLY
  clear b0 K0 hi hn hL hEN hsi hB
  cases R with
  | none =>
    have HL2 := Lib.hid (HLY.mono (fun en w' (h : RetLay none W0 en w') => (show Below W0.heap.size W0 w' ∧ ∃ A n c, en = .returned (.tuple #[.slice A n c, .bool false]) from ⟨h.1, by
      rcases h.2 with ⟨-, h2⟩ | ⟨s, A, c, h2, -⟩
      · exact h2
      · cases h2⟩)))
    clear HLY HCO HSF hR
    generalize strB g.label = SLB at *
    go_enter Tryd.func4, Tryd.ntmps4
    go_wp2_with first
      | (go_at_call 10; (with_reducible refine HL2.out.mono ?_); rintro e1 w1 ⟨hb1, A, n, cq, rfl⟩
         have K1 := Lib.hid (HK0.out.trans (hb1.mono HK0.out.size))
         clear hb1)
      | (go_at_call 7; (with_reducible refine (HH.out _ K1.out).mono ?_); rintro e2 w2 ⟨rfl, hb2⟩)
    go_ret
    exact ⟨rfl, K1.out.trans (hb2.mono K1.out.size)⟩
  | some s =>
    have HL2 := Lib.hid (HLY.mono (fun en w' (h : RetLay (some s) W0 en w') => (show Below W0.heap.size W0 w' ∧ ∃ A c, en = .returned (.tuple #[.slice A s.1.length c, .bool true]) ∧ Reads w' w'.heap.size 1 A s.1.length (wordsC s.1) from ⟨h.1, by
      rcases h.2 with ⟨h2, -⟩ | ⟨s', A, c, h2, h3⟩
      · cases h2
      · obtain rfl := Option.some.inj h2; exact ⟨A, c, h3⟩⟩)))
    obtain ⟨m, hm, hmw⟩ : ∃ m, layN g e temp ss = some m ∧ layW g e temp ss fill m = some s := by
      unfold layR at hR
      cases hn : layN g e temp ss with
      | none => rw [hn] at hR; cases hR
      | some m => rw [hn] at hR; exact ⟨m, rfl, hR⟩
    have hve : validE e = true := (validC_e (layN_some hm).2.1).1
    have hm5 := (layN_some hm).2.2.2.2.2
    have hsl : s.1.length = m.toNat := by
      unfold layW at hmw
      exact (markE_ok hst e (wo_ok fill temp.toNat (tempsV e) m.toNat) hmw).1
    have hsl2 : s.1.length ≤ 5000 := by omega
    have HST := Lib.hid hst
    clear HLY hR
    rw [hve, Bool.true_and] at HSF
    cases hsf : safeE e with
    | false =>
      rw [hsf] at HSF
      clear hsf HCO hm hmw hve hm5 HST hst hsl
      generalize s.1.length = N at *
      generalize strB g.label = SLB at *
      go_enter Tryd.func4, Tryd.ntmps4
      go_wp2_with first
        | (go_at_call 10; (with_reducible refine HL2.out.mono ?_); rintro e1 w1 ⟨hb1, A, cq, rfl, -⟩
           have K1 := Lib.hid (HK0.out.trans (hb1.mono HK0.out.size))
           have p1_ := HB0.out.call hb1
           have p0 := p1_.cell 0
           have p1 := p1_.cell 1
           have p2 := p1_.cell 2
           have p3 := p1_.cell 3
           have p4 := p1_.cell 4
           have p5 := p1_.cell 5
           have p6 := p1_.cell 6
           have p7 := p1_.cell 7
           have p8 := p1_.cell 8
           have p9 := p1_.cell 9
           have p10 := p1_.cell 10
           have p11 := p1_.cell 11
           have p12 := p1_.cell 12
           have p13 := p1_.cell 13
           have p14 := p1_.cell 14
           simp at p0 p1 p2 p3 p4 p5 p6 p7 p8 p9 p10 p11 p12 p13 p14
           have hlt1 := p1_.lt
           clear p1_ hb1)
        | (go_at_call 11; (with_reducible refine (HSF.out _ K1.out).mono ?_); rintro e3 w3 ⟨rfl, hb3⟩
           have K3 := Lib.hid (K1.out.trans (hb3.mono K1.out.size))
           clear hb3)
        | (go_at_call 7; (with_reducible refine (HH.out _ K3.out).mono ?_); rintro e2 w2 ⟨rfl, hb2⟩)
      go_ret
      exact ⟨rfl, K3.out.trans (hb2.mono K3.out.size)⟩
    | true =>
      rw [hsf] at HSF
      obtain ⟨he, -, hs32, hstop, a, hrun⟩ := lay_safe hm hmw hst h32 hsf
      have hlok := code_lok g e h32 temp he
      have hcl := (code_len g.env e temp 0).1
      have hnd := valid_nodes hve
      have HC2 : Hid (∀ W, Below w.heap.size w W → Calls Tryd.prog 12 #[.agg #[.int .u8 e.kind, .int .u8 e.oper, .int .u8 e.tk, .int .i32 e.n, .int .i64 e.v, .slice e.A e.l.length e.c], .slice g.Av g.vars.length g.cv, .agg #[.slice g.s.Af g.s.fr.length g.s.cf, .slice g.s.A1 g.s.vat.length g.s.c1, .slice g.s.A2 g.s.vin.length g.s.c2, .slice g.s.A3 g.s.cat.length g.s.c3, .slice g.s.A4 g.s.cin.length g.s.c4], .int .i64 g.frame, .int .i64 temp, .string (strB g.label)] W
          (fun en w' => Below W.heap.size W w' ∧ ∃ A c, en = .returned (.tuple #[.slice A (codeE g.env e temp 0).1.length c, .int .i64 0]) ∧ w'.ownsRow W.heap.size 51 5 (.slice A (codeE g.env e temp 0).1.length c) (codeE g.env e temp 0).1.length (linesL (codeE g.env e temp 0).1))) := Lib.hid fun W hb => (HCO.out W hb).mono fun en w' h => by
        rcases h.2 with h2 | h2
        · exact absurd he h2.1
        · obtain ⟨-, A, c, h3, h4⟩ := h2
          rw [he] at *
          exact ⟨h.1, A, c, h3, h4⟩
      have hN9 : (codeE g.env e temp 0).1.length ≤ 100000 := by omega
      have HSTOP := Lib.hid hstop
      have HRUN : Hid (∀ (A Aw : Option Addr) (c cw : Nat) (W : World), Reads W W.heap.size 5 A (codeE g.env e temp 0).1.length (linesL (codeE g.env e temp 0).1) → Reads W W.heap.size 1 Aw s.1.length (wordsC s.1) →
          Calls Tryd.prog 8 #[.slice A (codeE g.env e temp 0).1.length c, .slice Aw s.1.length cw] W (RetV (.tuple #[.int .i32 a, .bool false, .int .i64 0]) W)) := Lib.hid fun A Aw c cw W h1 h2 => by
        have h3 := wRun _ hlok A _ c (by omega) s.1 hs32 Aw _ cw rfl (by omega) W h1 h2
        rw [hrun] at h3
        exact h3
      clear hcl HCO hsf he hs32 hstop hrun hlok hnd hm hmw hve hm5 HST hst hsl h32
      generalize (codeE g.env e temp 0).1 = ls at *
      obtain ⟨N, hN⟩ : ∃ N, ls.length = N := ⟨_, rfl⟩
      rw [hN] at HC2 hN9 HRUN
      have HN := Lib.hid hN
      clear hN
      obtain ⟨M, hM⟩ : ∃ M, s.1.length = M := ⟨_, rfl⟩
      rw [hM] at HL2 HRUN
      generalize s.1 = s1 at *
      clear hM
      generalize strB g.label = SLB at *
      go_enter Tryd.func4, Tryd.ntmps4
      go_wp2_with first
        | (go_at_call 10; (with_reducible refine HL2.out.mono ?_); rintro e1 w1 ⟨hb1, Aw, cq, rfl, hrw⟩
           have K1 := Lib.hid (HK0.out.trans (hb1.mono HK0.out.size))
           have RW1 := Lib.hid hrw
           have B1 := Lib.hid (HB0.out.call hb1)
           have p1_ := B1.out
           have p0 := p1_.cell 0
           have p1 := p1_.cell 1
           have p2 := p1_.cell 2
           have p3 := p1_.cell 3
           have p4 := p1_.cell 4
           have p5 := p1_.cell 5
           have p6 := p1_.cell 6
           have p7 := p1_.cell 7
           have p8 := p1_.cell 8
           have p9 := p1_.cell 9
           have p10 := p1_.cell 10
           have p11 := p1_.cell 11
           have p12 := p1_.cell 12
           have p13 := p1_.cell 13
           have p14 := p1_.cell 14
           simp at p0 p1 p2 p3 p4 p5 p6 p7 p8 p9 p10 p11 p12 p13 p14
           have hlt1 := p1_.lt
           clear p1_ hb1 hrw)
        | (go_at_call 11; (with_reducible refine (HSF.out _ K1.out).mono ?_); rintro e3 w3 ⟨rfl, hb3⟩
           have K3 := Lib.hid (K1.out.trans (hb3.mono K1.out.size))
           have RW3 := Lib.hid (RW1.out.call hb3)
           have p3_ := B1.out.call hb3
           have q0 := p3_.cell 0
           have q1 := p3_.cell 1
           have q2 := p3_.cell 2
           have q3 := p3_.cell 3
           have q4 := p3_.cell 4
           have q5 := p3_.cell 5
           have q6 := p3_.cell 6
           have q7 := p3_.cell 7
           have q8 := p3_.cell 8
           have q9 := p3_.cell 9
           have q10 := p3_.cell 10
           have q11 := p3_.cell 11
           have q12 := p3_.cell 12
           have q13 := p3_.cell 13
           have q14 := p3_.cell 14
           simp at q0 q1 q2 q3 q4 q5 q6 q7 q8 q9 q10 q11 q12 q13 q14
           have hlt3 := p3_.lt
           clear p3_ hb3)
        | (go_at_call 12; (with_reducible refine (HC2.out _ K3.out).mono ?_); rintro e4 w4 ⟨hb4, A, cp, rfl, ho⟩
           have K4 := Lib.hid (K3.out.trans (hb4.mono K3.out.size))
           have RW4 := Lib.hid (RW3.out.call hb4)
           have RL4 := Lib.hid (Reads.of_own ho)
           clear hb4 ho)
      go_loopw [11] (fun i wr => ∃ k : Nat, k ≤ N ∧ i = .int .i64 k ∧ wr = w4) (fun i _ => N - (intOf i).toNat)
      case atStart => exact ⟨0, Nat.zero_le _, rfl, rfl⟩
      case round =>
        obtain ⟨k, hk, rfl, hwr⟩ := hrel
        rw [hwr]
        clear hwr
        by_cases hltk : k < N
        · have hltI : (k : Int) < N := by omega
          obtain ⟨b, off, x, hA, hb, hx, l0, l1, l2, l3, l4⟩ := line_atR RL4.out (by rw [HN.out]; exact hltk) HN.out
          have hxs := HSTOP.out x (List.mem_of_getElem? hx)
          have es : ((strB x.target).toList == [115, 116, 111, 112]) = false := by rw [ByteArray.toList_eq]; show (x.target == stopT) = false; simpa using hxs
          generalize strB x.target = ST at *
          rw [hA]
          have hbs : b < w4.heap.size := hb
          clear hx hxs hA
          go_wp2
          go_roundw
          case rel => exact ⟨k + 1, by omega, by go_num, by first | trivial | rfl⟩
          case measure => simp [intOf]; omega
        · have hltI : ¬ (k : Int) < N := by omega
          have HRN := Lib.hid (HRUN.out A Aw cp cq w4 RL4.out RW4.out)
          go_wp2_with first
            | (go_at_call 8; (with_reducible refine HRN.out.mono ?_); rintro e5 w5 ⟨rfl, hb5⟩
               have K5 := Lib.hid (K4.out.trans (hb5.mono K4.out.size))
               clear hb5)
            | (go_at_call 7; (with_reducible refine (HH.out _ K5.out).mono ?_); rintro e2 w2 ⟨rfl, hb2⟩)
          go_ret
          exact ⟨rfl, K5.out.trans (hb2.mono K5.out.size)⟩
end Go.Proofs.YtbefmlioampgcaaDoor
