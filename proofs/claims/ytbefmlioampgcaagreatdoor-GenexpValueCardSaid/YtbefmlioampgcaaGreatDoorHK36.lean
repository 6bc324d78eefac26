/- Texts that belong together, joined: what each one holds is told ahead of it. -/
import Derived.Test.YtbefmlioampgcaaGreatDoorHK35
import Derived.Test.YtbefmlioampgcaaGreatDoorHK30
set_option linter.unusedVariables false
set_option linter.unusedSimpArgs false
/- The code of an expression leaves its value, or has a fault; plain. -/
namespace Go.Proofs.YtbefmlioampgcaaGreatDoor
open Go.RowKit
set_option linter.unusedVariables false
set_option linter.unusedSimpArgs false

/-- The words that are used as truths are 0 and 1. -/
def BoolOk (ss : List RwL) (x : KE) : Prop := (x.kind = 5 ∧ (x.oper = 20 ∨ x.oper = 21)) ∨ (x.kind = 4 ∧ x.oper = 26) → ∀ a ∈ x.l, ∀ v, valueE ss a = some v → v = 0 ∨ v = 1
theorem run_jmp0 {B rest : List LineL} {z : LineL} {s : List UInt8} {r : RegL} {m : List Int} (h : r.a = 0) (hzs : z.label = s) (hst : s ≠ stopT) (hn : ∀ x ∈ B, x.label ≠ s) :
    runS (lnJ s :: (B ++ [z]) ++ rest) none r m = runS (z :: rest) none r m := by
  rw [List.cons_append, runS]
  have hj : stepO (lnJ s) r m = .jump s := by simp [stepO, lnJ, h, hst]
  simp only [Option.any_none, Bool.false_eq_true, if_false, hj]
  rw [runS_skip (B ++ [z] ++ rest) B.length s r m z (by simp) hzs ?_]
  · simp
  · intro k x hk hx
    refine hn x ?_
    rw [List.append_assoc, List.getElem?_append_left hk] at hx
    exact List.mem_of_getElem? hx
theorem run_jmp1 {l : List LineL} {s : List UInt8} {r : RegL} {m : List Int} (h : r.a ≠ 0) : runS (lnJ s :: l) none r m = runS l none r.pop m := by
  rw [runS]
  simp [stepO, lnJ, h]
theorem valueE_2b {ss : List RwL} {e a b : KE} {r : List KE} (h : e.l = a :: b :: r) (ho : ¬ (e.oper = 20 ∨ e.oper = 21)) : valueE ss e = (valueE ss a).bind fun x => (valueE ss b).bind fun y => applyO e.oper x y := by
  rw [valueE_2 h]
  cases valueE ss a with
  | none => rfl
  | some x =>
    simp only [Option.bind_some]
    rw [if_neg (by omega)]
    cases valueE ss b <;> rfl
theorem off_of_pt {env : CEnv} {ss : List RwL} {ws : List Int} {t0 T1 : Int} {x : KE} (h : PtOk env ss ws t0 T1 x) : offOk env ws.length x := by
  refine ⟨h.1, fun hk => ?_⟩
  obtain ⟨a, k, r, h1, -, -, -, h2, -, -, h3, -⟩ := h.2 (.inl hk)
  rw [h1]
  omega
set_option maxHeartbeats 8000000 in
theorem code_good (env : CEnv) (ss : List RwL) (ws : List Int) (t0 T1 : Int) (hM : ws.length ≤ 65536) (ht00 : 0 ≤ t0) (hT1 : T1 ≤ ws.length) (hd : ∀ v, is32 (env.dim v)) (e : KE) :
    e.all (fun x => fieldsB x = true) → e.all (PtOk env ss ws t0 T1) → e.all (BoolOk ss) → ∀ (t : Int) (n : Nat), t0 ≤ t → t + tempsE e ≤ T1 → Good ws t0 T1 (regsE e) t (t + tempsE e) (valueE ss e) (codeE env e t n).1 := by
  induction e using KE.ind with
  | h e ih =>
    intro hall hpt hbo t n ht htT
    have hf := (KE.all_iff.1 hall).1
    have hpa := (KE.all_iff.1 hall).2
    have hof := (KE.all_iff.1 hpt).1
    have hpo := (KE.all_iff.1 hpt).2
    have hbf := (KE.all_iff.1 hbo).1
    have hbp := (KE.all_iff.1 hbo).2
    have hk := fieldsB_kind hf
    have hbadc : ∀ x ∈ e.l, ∀ (t : Int) (n : Nat), t0 ≤ t → t + tempsE x ≤ T1 → Bad ws.length (codeE env x t n).1 := fun x hx t n h1 h2 =>
      code_bad env hd ws.length (by omega) x (hpa x hx) (KE.all_imp (fun y => off_of_pt) x (hpo x hx)) t n (by omega) (by omega)
    match hl : e.l with
    | [] =>
      rw [hl] at hk
      simp at hk
      rw [codeE_0 env hl, valueE_0 hl, (regsE_0 hl).1, (regsE_0 hl).2.1]
      intro rest r m hs he hag
      rcases hk with hk | hk
      · rw [if_pos hk, if_pos hk]
        refine ⟨fun v h => ?_, fun h => by cases h⟩
        obtain rfl := Option.some.inj h
        refine ⟨r.a, r.b, m, ?_, ⟨⟨hof.1, hs.1.1, hs.1.2.1⟩, hs.2⟩, fun _ => rfl, fun _ => rfl, Keep.refl _ _ _⟩
        simp only [List.cons_append, List.nil_append]
        rw [run_ldc]
        unfold RegL.push
        rw [he]
      · rw [show (if e.kind = 1 then some e.n else if e.kind = 2 then atV ss e.v 0 else none) = atV ss e.v 0 by rw [if_neg (by omega), if_pos hk], show (if e.kind = 1 then ([lnF 4 e.n], n) else ([lnF 7 (env.off e.v)], n)) = ([lnF 7 (env.off e.v)], n) by rw [if_neg (by omega)]]
        obtain ⟨a, k, rw_, hoff, hv, hr, hr32, hl1, hl64, -, hal, hws⟩ := hof.2 (.inl hk)
        have hr0 : rw_.l[0]? = some rw_.l[0] := List.getElem?_eq_getElem (by omega)
        rw [hoff, hv, atV_of hr, if_neg (by omega)]
        refine ⟨fun v h => ?_, fun h => by cases h⟩
        have hve : rw_.l[0] = v := by
          rw [show (0 : Int).toNat = 0 from rfl, List.getD_eq_getElem?_getD, hr0] at h
          exact Option.some.inj h
        obtain ⟨hw1, hw2⟩ := hws 0 (by omega)
        have hmi : m[a]? = some v := by
          have := hag.2 (a + 0) hw2
          rw [hw1, hr0, hve] at this
          exact this
        refine ⟨r.a, r.b, m, ?_, ⟨⟨by rw [← hve]; exact hr32 _ (List.getElem_mem _), hs.1.1, hs.1.2.1⟩, hs.2⟩, fun _ => rfl, fun _ => rfl, Keep.refl _ _ _⟩
        simp only [List.cons_append, List.nil_append]
        rw [run_ldl hmi]
        unfold RegL.push
        rw [he]
    | [a] =>
      have ma : a ∈ e.l := by rw [hl]; simp
      have h1l : e.l.length = 1 := by rw [hl]; rfl
      have hte := (regsE_1 hl).2.1
      have hre := (regsE_1 hl).1
      rw [hte] at htT ⊢
      rw [codeE_1 env hl, valueE_1 hl]
      intro rest r m hs he hag
      have hA0 := ih a ma (hpa a ma) (hpo a ma) (hbp a ma) t n ht htT (afterL env e.kind e.oper e.tk e.v ++ rest) r m hs he hag
      simp only
      rw [List.append_assoc]
      cases hv : valueE ss a with
      | none => exact ⟨fun v h => (by cases h), fun _ => BadOut.on (bad_after env _ _ _ _ (hd _)) (hA0.2 hv)⟩
      | some x =>
        obtain ⟨b, c, m1, h1, h2, h3, h4, h5⟩ := hA0.1 x hv
        have hA := after_run hf h1l hof hM (fun h => hbf (.inr h) a ma x hv) rest m1 h2 (hag.keep h5 ht htT)
        refine ⟨fun v h => ?_, fun h => by rw [h1]; exact hA.2 h⟩
        obtain ⟨c', hv32, hrun, hc', hez⟩ := hA.1 v h
        refine ⟨b, c', m1, by rw [h1, hrun], ⟨⟨hv32, h2.1.2.1, hc'⟩, h2.2⟩, fun hq => h3 ?_, fun hq => ?_, h5⟩
        · rw [hre] at hq; split at hq <;> omega
        · rw [hre] at hq
          split at hq
          · rename_i hz
            rw [hez hz]; exact h4 hq
          · omega
    | a :: b :: r =>
      have ma : a ∈ e.l := by rw [hl]; simp
      have mb : b ∈ e.l := by rw [hl]; simp
      have h5 := (fieldsB_len hf).2.2 (by have := (fieldsB_len hf).1; rw [hl] at this ⊢; simp at this ⊢; omega)
      have htt := (regsE_2 hl).2.1
      have hre := (regsE_2 hl).1
      have hla := regsE_le a
      have hlb := regsE_le b
      have hia := fun t n => ih a ma (hpa a ma) (hpo a ma) (hbp a ma) t n
      have hib := fun t n => ih b mb (hpa b mb) (hpo b mb) (hbp b mb) t n
      have hba := hbadc a ma
      have hbb := hbadc b mb
      have hle : tempsE a ≤ tempsE e ∧ tempsE b ≤ tempsE e := by rw [htt]; split <;> omega
      rw [codeE_2 env hl]
      by_cases h20 : e.oper = 20 ∨ e.oper = 21
      · rw [if_pos h20, valueE_2 hl]
        have hre2 : regsE e = max (regsE a) (regsE b) := by rw [hre, if_neg (by omega)]
        have hlab : ∀ (q : Nat), ∀ x ∈ (codeE env b t (q + 1)).1, x.label ≠ freshL env (q + 1) := by
          intro q x hx he
          have hm : x.label ∈ labs (codeE env b t (q + 1)).1 := mem_labs.2 ⟨by rw [he]; exact fresh_ne _ _, x, hx, rfl⟩
          obtain ⟨j, h1, h2, h3⟩ := (code_labs env b t (q + 1)).2.2 _ hm
          rw [he] at h3
          have := fresh_inj h3
          omega
        have hbx := hbf (.inl ⟨h5.1, h20⟩)
        have h0 : is32 0 := is32_0
        have h1i : is32 1 := by unfold is32; omega
        obtain ⟨n2, hn2⟩ : ∃ k, (codeE env a t n).2 = k := ⟨_, rfl⟩
        obtain ⟨s, hsd⟩ : ∃ s, freshL env (n2 + 1) = s := ⟨_, rfl⟩
        have hst : s ≠ stopT := by rw [← hsd]; exact fresh_stop _ _
        have hlab2 : ∀ x ∈ (codeE env b t (n2 + 1)).1, x.label ≠ s := by rw [← hsd]; exact hlab n2
        by_cases h21 : e.oper = 21
        · simp only [if_pos h21, hn2, hsd]
          intro rest rg m hs he hag
          have hz : Bad ws.length [(⟨s, 12, 0, [], []⟩ : LineL)] := Bad.thru (Through.quiet (by intro x hx; simp at hx; subst hx; exact ⟨h0, .inr (.inl rfl)⟩))
          have hlab3 : ∀ x ∈ (codeE env b t (n2 + 1)).1 ++ [lnF 12 0], x.label ≠ s := by
            intro x hx
            rcases List.mem_append.1 hx with hx | hx
            · exact hlab2 x hx
            · simp at hx
              subst hx
              simp only [lnF]
              rw [← hsd]
              exact fun h => fresh_ne _ _ h.symm
          have hjb : Bad ws.length (lnJ s :: (((codeE env b t (n2 + 1)).1 ++ [lnF 12 0]) ++ [(⟨s, 12, 0, [], []⟩ : LineL)])) :=
            bad_jump ((hbb t (n2 + 1) ht (by omega)).append Bad.f12) ⟨h0, .inr (.inl rfl)⟩ rfl hst hlab3
          have hcode : (codeE env a t n).1 ++ ([lnF 12 0] ++ ([lnJ s] ++ ((codeE env b t (n2 + 1)).1 ++ [lnF 12 0, ⟨s, 12, 0, [], []⟩]))) ++ rest =
              (codeE env a t n).1 ++ (lnF 12 0 :: (lnJ s :: (((codeE env b t (n2 + 1)).1 ++ [lnF 12 0]) ++ [(⟨s, 12, 0, [], []⟩ : LineL)]) ++ rest)) := by simp
          rw [hcode]
          have hA := hia t n ht (by omega) (lnF 12 0 :: (lnJ s :: (((codeE env b t (n2 + 1)).1 ++ [lnF 12 0]) ++ [(⟨s, 12, 0, [], []⟩ : LineL)]) ++ rest)) rg m hs he hag
          cases hva : valueE ss a with
          | none =>
            refine ⟨fun v h => (by cases h), fun _ => ?_⟩
            have h6 := BadOut.on (b := [lnF 12 0]) (rest := lnJ s :: (((codeE env b t (n2 + 1)).1 ++ [lnF 12 0]) ++ [(⟨s, 12, 0, [], []⟩ : LineL)]) ++ rest) Bad.f12 (hA.2 hva)
            exact BadOut.on hjb h6
          | some x =>
            obtain ⟨b1, c1, m1, g1, g2, g3, g4, g5⟩ := hA.1 x hva
            rw [g1, run_eqc']
            rcases hbx a ma x hva with rfl | rfl
            · simp only
              rw [if_neg (by omega)]
              have hB := hib t (n2 + 1) ht (by omega) (lnF 12 0 :: (⟨s, 12, 0, [], []⟩ : LineL) :: rest) ⟨b1, c1, c1, false⟩ m1 ⟨⟨g2.1.2.1, g2.1.2.2, g2.1.2.2⟩, g2.2⟩ rfl (hag.keep g5 ht (by omega))
              have hcode2 : runS (lnJ s :: (((codeE env b t (n2 + 1)).1 ++ [lnF 12 0]) ++ [(⟨s, 12, 0, [], []⟩ : LineL)]) ++ rest) none ⟨truthL ((0 : Int) == 0), b1, c1, false⟩ m1 =
                  runS ((codeE env b t (n2 + 1)).1 ++ (lnF 12 0 :: (⟨s, 12, 0, [], []⟩ : LineL) :: rest)) none ⟨b1, c1, c1, false⟩ m1 := by
                rw [List.cons_append, run_jmp1 (by simp [truthL])]
                simp [RegL.pop]
              try simp only
              rw [hcode2]
              cases hvb : valueE ss b with
              | none =>
                refine ⟨fun v h => (by cases h), fun _ => ?_⟩
                have h6 := BadOut.on (b := [lnF 12 0]) (rest := (⟨s, 12, 0, [], []⟩ : LineL) :: rest) Bad.f12 (hB.2 hvb)
                exact BadOut.on hz h6
              | some y =>
                obtain ⟨b2, c2, m2, k1, k2, k3, k4, k5⟩ := hB.1 y hvb
                rw [k1, run_eqc', run_eqc]
                have hy := hbx b mb y hvb
                have hap : applyO e.oper 0 y = some y := by
                  rw [h21]
                  rcases hy with rfl | rfl <;> rfl
                try simp only
                rw [hap]
                refine ⟨fun v h => ?_, fun h => by cases h⟩
                obtain rfl := Option.some.inj h
                have hyy : truthL (truthL (y == 0) == 0) = y := by rcases hy with rfl | rfl <;> rfl
                rw [hyy]
                exact ⟨b2, c2, m2, rfl, k2, fun hq => (k3 (by omega)).trans (g3 (by omega)), fun hq => (k4 (by omega)).trans (g4 (by omega)), (g5.mono (Int.le_refl _) (by omega)).trans (k5.mono (Int.le_refl _) (by omega))⟩
            · simp only
              rw [if_pos (Or.inr ⟨h21, trivial⟩)]
              refine ⟨fun v h => ?_, fun h => by cases h⟩
              obtain rfl := Option.some.inj h
              try simp only
              rw [run_jmp0 (z := ⟨s, 12, 0, [], []⟩) (s := s) (show truthL ((1 : Int) == 0) = 0 from rfl) rfl hst hlab3, run_eqc]
              exact ⟨b1, c1, m1, by simp [truthL], ⟨⟨h1i, g2.1.2.1, g2.1.2.2⟩, g2.2⟩, fun hq => g3 (by omega), fun hq => g4 (by omega), g5.mono (Int.le_refl _) (by omega)⟩
        · have ho : e.oper = 20 := by omega
          simp only [if_neg h21, hn2, hsd]
          intro rest rg m hs he hag
          have hz : Bad ws.length [(⟨s, 8, 0, [], []⟩ : LineL)] := Bad.thru (Through.quiet (by intro x hx; simp at hx; subst hx; exact ⟨h0, .inr (.inr (.inl ⟨rfl, rfl⟩))⟩))
          have hjb : Bad ws.length (lnJ s :: ((codeE env b t (n2 + 1)).1 ++ [(⟨s, 8, 0, [], []⟩ : LineL)])) :=
            bad_jump (hbb t (n2 + 1) ht (by omega)) ⟨h0, .inr (.inr (.inl ⟨rfl, rfl⟩))⟩ rfl hst hlab2
          have hcode : (codeE env a t n).1 ++ ([lnJ s] ++ ((codeE env b t (n2 + 1)).1 ++ [⟨s, 8, 0, [], []⟩])) ++ rest =
              (codeE env a t n).1 ++ (lnJ s :: ((codeE env b t (n2 + 1)).1 ++ [(⟨s, 8, 0, [], []⟩ : LineL)]) ++ rest) := by simp
          rw [hcode]
          have hA := hia t n ht (by omega) (lnJ s :: ((codeE env b t (n2 + 1)).1 ++ [(⟨s, 8, 0, [], []⟩ : LineL)]) ++ rest) rg m hs he hag
          cases hva : valueE ss a with
          | none => exact ⟨fun v h => (by cases h), fun _ => BadOut.on hjb (hA.2 hva)⟩
          | some x =>
            obtain ⟨b1, c1, m1, g1, g2, g3, g4, g5⟩ := hA.1 x hva
            rw [g1]
            rcases hbx a ma x hva with rfl | rfl
            · simp only
              rw [if_pos (Or.inl ⟨ho, trivial⟩)]
              refine ⟨fun v h => ?_, fun h => by cases h⟩
              obtain rfl := Option.some.inj h
              rw [run_jmp0 (z := ⟨s, 8, 0, [], []⟩) (s := s) rfl rfl hst hlab2, run_adc0 _ h0]
              exact ⟨b1, c1, m1, rfl, g2, fun hq => g3 (by omega), fun hq => g4 (by omega), g5.mono (Int.le_refl _) (by omega)⟩
            · simp only
              rw [if_neg (by omega)]
              have hB := hib t (n2 + 1) ht (by omega) ((⟨s, 8, 0, [], []⟩ : LineL) :: rest) ⟨b1, c1, c1, false⟩ m1 ⟨⟨g2.1.2.1, g2.1.2.2, g2.1.2.2⟩, g2.2⟩ rfl (hag.keep g5 ht (by omega))
              have hcode2 : runS (lnJ s :: ((codeE env b t (n2 + 1)).1 ++ [(⟨s, 8, 0, [], []⟩ : LineL)]) ++ rest) none ⟨1, b1, c1, false⟩ m1 =
                  runS ((codeE env b t (n2 + 1)).1 ++ ((⟨s, 8, 0, [], []⟩ : LineL) :: rest)) none ⟨b1, c1, c1, false⟩ m1 := by
                rw [List.cons_append, run_jmp1 (by simp)]
                simp [RegL.pop]
              rw [hcode2]
              cases hvb : valueE ss b with
              | none => exact ⟨fun v h => (by cases h), fun _ => BadOut.on hz (hB.2 hvb)⟩
              | some y =>
                obtain ⟨b2, c2, m2, k1, k2, k3, k4, k5⟩ := hB.1 y hvb
                rw [k1, run_adc0 _ k2.1.1]
                have hy := hbx b mb y hvb
                have hap : applyO e.oper 1 y = some y := by
                  rw [ho]
                  rcases hy with rfl | rfl <;> rfl
                try simp only
                rw [hap]
                refine ⟨fun v h => ?_, fun h => by cases h⟩
                obtain rfl := Option.some.inj h
                exact ⟨b2, c2, m2, rfl, k2, fun hq => (k3 (by omega)).trans (g3 (by omega)), fun hq => (k4 (by omega)).trans (g4 (by omega)), (g5.mono (Int.le_refl _) (by omega)).trans (k5.mono (Int.le_refl _) (by omega))⟩
      · rw [if_neg h20, valueE_2b hl h20]
        have hob := @bad_oper ws.length e.oper
        have hor := fun (x y c : Int) (hx : is32 x) (hy : is32 y) (rest : List LineL) (m : List Int) => oper_run (o := e.oper) h5.2.1 h5.2.2 (by omega) (by omega) (c := c) hx hy rest m
        by_cases h33 : regsE a = 3 ∧ regsE b = 3
        · rw [if_pos h33]
          have hta : tempsE a + 1 ≤ tempsE e := by rw [htt, if_pos ⟨by omega, by omega, h33.1, h33.2⟩]; omega
          have hre3 : regsE e = 3 := by rw [hre, if_pos (by omega)]; omega
          obtain ⟨tn, rfl⟩ : ∃ k : Nat, t = k := ⟨t.toNat, by omega⟩
          have htl : tn < ws.length := by omega
          have hsb : ∀ f, (f = 13 ∨ f = 7) → Bad ws.length [lnF f (tn : Int)] := fun f hf => Bad.thru (Through.quiet (by
            intro x hx; simp at hx; subst hx
            exact ⟨by simp only [lnF]; unfold is32; omega, .inr (.inr (.inr (.inr ⟨by simp only [lnF]; omega, by simp only [lnF]; omega⟩)))⟩))
          simp only
          intro rest rg m hs he hag
          generalize hn2 : (codeE env b (tn : Int) n).2 = n2
          have hcode : (codeE env b (tn : Int) n).1 ++ ([lnF 13 (tn : Int)] ++ ((codeE env a ((tn : Int) + 1) n2).1 ++ ([lnF 7 (tn : Int)] ++ operL e.oper))) ++ rest =
              (codeE env b (tn : Int) n).1 ++ (lnF 13 (tn : Int) :: ((codeE env a ((tn : Int) + 1) n2).1 ++ (lnF 7 (tn : Int) :: (operL e.oper ++ rest)))) := by simp
          rw [hcode]
          have hB := hib (tn : Int) n ht (by omega) (lnF 13 (tn : Int) :: ((codeE env a ((tn : Int) + 1) n2).1 ++ (lnF 7 (tn : Int) :: (operL e.oper ++ rest)))) rg m hs he hag
          have hbt2 : Bad ws.length ([lnF 7 (tn : Int)] ++ operL e.oper) := (hsb 7 (.inr rfl)).append hob
          have hbt1 : Bad ws.length ([lnF 13 (tn : Int)] ++ ((codeE env a ((tn : Int) + 1) n2).1 ++ ([lnF 7 (tn : Int)] ++ operL e.oper))) := (hsb 13 (.inl rfl)).append ((hba _ _ (by omega) (by omega)).append hbt2)
          cases hvb : valueE ss b with
          | none =>
            have h6 : BadOut ws.length rest (runS ((codeE env b (tn : Int) n).1 ++ (lnF 13 (tn : Int) :: ((codeE env a ((tn : Int) + 1) n2).1 ++ (lnF 7 (tn : Int) :: (operL e.oper ++ rest))))) none rg m) := by
              have := hB.2 hvb
              have e1 : (lnF 13 (tn : Int) :: ((codeE env a ((tn : Int) + 1) n2).1 ++ (lnF 7 (tn : Int) :: (operL e.oper ++ rest)))) = ([lnF 13 (tn : Int)] ++ ((codeE env a ((tn : Int) + 1) n2).1 ++ ([lnF 7 (tn : Int)] ++ operL e.oper))) ++ rest := by simp
              rw [e1] at this ⊢
              exact BadOut.on hbt1 this
            cases valueE ss a with
            | none => exact ⟨fun v h => (by simp at h), fun _ => h6⟩
            | some x => exact ⟨fun v h => (by simp at h), fun _ => h6⟩
          | some y =>
            obtain ⟨b1, c1, m1, g1, g2, g3, g4, g5⟩ := hB.1 y hvb
            have hm1 : m1.length = ws.length := g2.2.2
            have htm : tn < m1.length := by omega
            rw [g1, run_stl htm]
            have hk1 : Keep (tn : Int) ((tn : Int) + tempsE e) m1 (m1.set tn y) := ⟨by simp, fun i hi => by rw [List.getElem?_set_ne (by omega)]⟩
            have hk2 := (g5.mono (Int.le_refl _) (show (tn : Int) + tempsE b ≤ (tn : Int) + tempsE e by omega)).trans hk1
            have hst2 : StL ws.length ⟨b1, c1, c1, false⟩ (m1.set tn y) := ⟨⟨g2.1.2.1, g2.1.2.2, g2.1.2.2⟩, fun v hv => by
              rcases List.mem_or_eq_of_mem_set hv with hv | rfl
              · exact g2.2.1 v hv
              · exact g2.1.1, by simp [hm1]⟩
            have hA := hia ((tn : Int) + 1) n2 (by omega) (by omega) (lnF 7 (tn : Int) :: (operL e.oper ++ rest)) ⟨b1, c1, c1, false⟩ (m1.set tn y) hst2 rfl (hag.keep hk2 ht (by omega))
            simp only [RegL.pop]
            cases hva : valueE ss a with
            | none =>
              refine ⟨fun v h => (by simp at h), fun _ => ?_⟩
              have := hA.2 hva
              have e1 : (lnF 7 (tn : Int) :: (operL e.oper ++ rest)) = ([lnF 7 (tn : Int)] ++ operL e.oper) ++ rest := by simp
              rw [e1] at this ⊢
              exact BadOut.on hbt2 this
            | some x =>
              obtain ⟨b2, c2, m2, k1, k2, k3, k4, k5⟩ := hA.1 x hva
              have hmt : m2[tn]? = some y := by
                rw [k5.2 tn (by omega), List.getElem?_set_self htm]
              rw [k1, run_ldl hmt]
              simp only [RegL.push]
              have hkk := hk2.trans (k5.mono (show (tn : Int) ≤ (tn : Int) + 1 by omega) (show (tn : Int) + 1 + tempsE a ≤ (tn : Int) + tempsE e by omega))
              rcases hor x y b2 k2.1.1 g2.1.1 rest m2 with ⟨v, hv1, hv2, hv3⟩ | ⟨hv1, v, hv2, hv3⟩
              · simp only [Option.bind_some]
                rw [hv1, hv3]
                refine ⟨fun v' h => ?_, fun h => by simp at h⟩
                obtain rfl := Option.some.inj h
                exact ⟨b2, b2, m2, rfl, ⟨⟨hv2, k2.1.2.1, k2.1.2.1⟩, k2.2⟩, fun hq => by omega, fun hq => by omega, hkk⟩
              · simp only [Option.bind_some]
                rw [hv1, hv3]
                exact ⟨fun v' h => (by simp at h), fun _ => .inr ⟨_, m2, rfl, ⟨⟨hv2, k2.1.2.1, k2.1.2.1⟩, k2.2⟩, rfl⟩⟩
        · rw [if_neg h33]
          by_cases hlt : regsE a < regsE b
          · rw [if_pos hlt]
            have hre3 : regsE e = regsE b := by rw [hre, if_neg (by omega)]; omega
            simp only
            intro rest rg m hs he hag
            generalize hn2 : (codeE env b t n).2 = n2
            have hcode : (codeE env b t n).1 ++ ((codeE env a t n2).1 ++ ([lnO 0] ++ operL e.oper)) ++ rest = (codeE env b t n).1 ++ ((codeE env a t n2).1 ++ (lnO 0 :: (operL e.oper ++ rest))) := by simp
            rw [hcode]
            have hbt2 : Bad ws.length ([lnO 0] ++ operL e.oper) := (Bad.op (by decide)).append hob
            have hbt1 : Bad ws.length ((codeE env a t n2).1 ++ ([lnO 0] ++ operL e.oper)) := (hba _ _ ht (by omega)).append hbt2
            have hB := hib t n ht (by omega) ((codeE env a t n2).1 ++ (lnO 0 :: (operL e.oper ++ rest))) rg m hs he hag
            cases hvb : valueE ss b with
            | none =>
              have h6 : BadOut ws.length rest (runS ((codeE env b t n).1 ++ ((codeE env a t n2).1 ++ (lnO 0 :: (operL e.oper ++ rest)))) none rg m) := by
                have := hB.2 hvb
                have e1 : ((codeE env a t n2).1 ++ (lnO 0 :: (operL e.oper ++ rest))) = ((codeE env a t n2).1 ++ ([lnO 0] ++ operL e.oper)) ++ rest := by simp
                rw [e1] at this ⊢
                exact BadOut.on hbt1 this
              cases valueE ss a with
              | none => exact ⟨fun v h => (by simp at h), fun _ => h6⟩
              | some x => exact ⟨fun v h => (by simp at h), fun _ => h6⟩
            | some y =>
              obtain ⟨b1, c1, m1, g1, g2, g3, g4, g5⟩ := hB.1 y hvb
              rw [g1]
              have hA := hia t n2 ht (by omega) (lnO 0 :: (operL e.oper ++ rest)) ⟨y, b1, c1, false⟩ m1 g2 rfl (hag.keep g5 ht (by omega))
              cases hva : valueE ss a with
              | none =>
                refine ⟨fun v h => (by simp at h), fun _ => ?_⟩
                have := hA.2 hva
                have e1 : (lnO 0 :: (operL e.oper ++ rest)) = ([lnO 0] ++ operL e.oper) ++ rest := by simp
                rw [e1] at this ⊢
                exact BadOut.on hbt2 this
              | some x =>
                obtain ⟨b2, c2, m2, k1, k2, k3, k4, k5⟩ := hA.1 x hva
                have hb2 : b2 = y := k3 (by omega)
                rw [k1, run_op]
                have hrev : (opR ⟨x, b2, c2, false⟩ 0).getD ⟨x, b2, c2, false⟩ = ⟨y, x, c2, false⟩ := by rw [hb2]; simp [opR]
                rw [hrev]
                have hkk := (g5.mono (Int.le_refl _) (show t + tempsE b ≤ t + tempsE e by omega)).trans (k5.mono (Int.le_refl _) (show t + tempsE a ≤ t + tempsE e by omega))
                rcases hor x y c2 k2.1.1 g2.1.1 rest m2 with ⟨v, hv1, hv2, hv3⟩ | ⟨hv1, v, hv2, hv3⟩
                · simp only [Option.bind_some]
                  rw [hv1, hv3]
                  refine ⟨fun v' h => ?_, fun h => by simp at h⟩
                  obtain rfl := Option.some.inj h
                  exact ⟨c2, c2, m2, rfl, ⟨⟨hv2, k2.1.2.2, k2.1.2.2⟩, k2.2⟩, fun hq => (k4 (by omega)).trans (g3 (by omega)), fun hq => by omega, hkk⟩
                · simp only [Option.bind_some]
                  rw [hv1, hv3]
                  exact ⟨fun v' h => (by simp at h), fun _ => .inr ⟨_, m2, rfl, ⟨⟨hv2, k2.1.2.2, k2.1.2.2⟩, k2.2⟩, rfl⟩⟩
          · rw [if_neg hlt]
            simp only
            intro rest rg m hs he hag
            generalize hn2 : (codeE env a t n).2 = n2
            have hcode : (codeE env a t n).1 ++ ((codeE env b t n2).1 ++ operL e.oper) ++ rest = (codeE env a t n).1 ++ ((codeE env b t n2).1 ++ (operL e.oper ++ rest)) := by simp
            rw [hcode]
            have hbt1 : Bad ws.length ((codeE env b t n2).1 ++ operL e.oper) := (hbb _ _ ht (by omega)).append hob
            have hA := hia t n ht (by omega) ((codeE env b t n2).1 ++ (operL e.oper ++ rest)) rg m hs he hag
            cases hva : valueE ss a with
            | none =>
              refine ⟨fun v h => (by simp at h), fun _ => ?_⟩
              have := hA.2 hva
              have e1 : ((codeE env b t n2).1 ++ (operL e.oper ++ rest)) = ((codeE env b t n2).1 ++ operL e.oper) ++ rest := by simp
              rw [e1] at this ⊢
              exact BadOut.on hbt1 this
            | some x =>
              obtain ⟨b1, c1, m1, g1, g2, g3, g4, g5⟩ := hA.1 x hva
              rw [g1]
              have hB := hib t n2 ht (by omega) (operL e.oper ++ rest) ⟨x, b1, c1, false⟩ m1 g2 rfl (hag.keep g5 ht (by omega))
              cases hvb : valueE ss b with
              | none => exact ⟨fun v h => (by simp at h), fun _ => BadOut.on hob (hB.2 hvb)⟩
              | some y =>
                obtain ⟨b2, c2, m2, k1, k2, k3, k4, k5⟩ := hB.1 y hvb
                obtain rfl : b2 = x := k3 (by omega)
                rw [k1]
                have hkk := (g5.mono (Int.le_refl _) (show t + tempsE a ≤ t + tempsE e by omega)).trans (k5.mono (Int.le_refl _) (show t + tempsE b ≤ t + tempsE e by omega))
                have hq1 : regsE e ≤ 2 → regsE b ≤ 1 ∧ regsE a ≤ 2 := fun hq => by
                  rw [hre] at hq
                  split at hq <;> omega
                have hq2 : ¬ regsE e ≤ 1 := fun hq => by
                  rw [hre] at hq
                  split at hq <;> omega
                rcases hor b2 y c2 g2.1.1 k2.1.1 rest m2 with ⟨v, hv1, hv2, hv3⟩ | ⟨hv1, v, hv2, hv3⟩
                · simp only [Option.bind_some]
                  rw [hv1, hv3]
                  refine ⟨fun v' h => ?_, fun h => by simp at h⟩
                  obtain rfl := Option.some.inj h
                  exact ⟨c2, c2, m2, rfl, ⟨⟨hv2, k2.1.2.2, k2.1.2.2⟩, k2.2⟩, fun hq => (k4 (hq1 hq).1).trans (g3 (hq1 hq).2), fun hq => absurd hq hq2, hkk⟩
                · simp only [Option.bind_some]
                  rw [hv1, hv3]
                  exact ⟨fun v' h => (by simp at h), fun _ => .inr ⟨_, m2, rfl, ⟨⟨hv2, k2.1.2.2, k2.1.2.2⟩, k2.2⟩, rfl⟩⟩
end Go.Proofs.YtbefmlioampgcaaGreatDoor

/- A value fits its kind; what mark has laid; plain. -/
namespace Go.Proofs.YtbefmlioampgcaaGreatDoor
open Go.RowKit
set_option linter.unusedVariables false
set_option linter.unusedSimpArgs false

theorem truth_fit (b : Bool) : fitW 3 (truthL b) = true := by cases b <;> simp [fitW, truthL]
theorem fit_one (v : Int) : fitW 1 v = true := by simp [fitW]
theorem fits_kind3 {vs : List KVar} {e : KE} {q : Nat} (hk : e.kind = 3) (h : fitsB vs e q = true) : (∃ x, vs[e.v.toNat]? = some x ∧ 0 < x.dim ∧ x.kind = q) ∧ fitsA vs e.l 0 1 = true := by
  obtain ⟨k, o, t, n, v, A, c, l⟩ := e
  simp only at hk
  subst hk
  rw [fitsB] at h
  try simp only at h
  cases hx : vs[v.toNat]? with
  | none => rw [hx] at h; cases h
  | some x =>
    rw [hx] at h
    simp only [Bool.and_eq_true, decide_eq_true_eq, beq_iff_eq] at h
    exact ⟨⟨x, rfl, h.1.1, h.1.2⟩, h.2⟩
theorem fits_kind2 {vs : List KVar} {e : KE} {q : Nat} (hk : e.kind = 2) (h : fitsB vs e q = true) : ∃ x, vs[e.v.toNat]? = some x ∧ x.dim = 0 ∧ x.kind = q := by
  obtain ⟨k, o, t, n, v, A, c, l⟩ := e
  simp only at hk
  subst hk
  rw [fitsB] at h
  try simp only at h
  cases hx : vs[v.toNat]? with
  | none => rw [hx] at h; cases h
  | some x =>
    rw [hx] at h
    simp only [Bool.and_eq_true, decide_eq_true_eq, beq_iff_eq] at h
    exact ⟨x, rfl, h.1, h.2⟩
theorem fits_kind1 {vs : List KVar} {e : KE} {q : Nat} (hk : e.kind = 1) (h : fitsB vs e q = true) : fitW q e.n = true := by
  obtain ⟨k, o, t, n, v, A, c, l⟩ := e
  simp only at hk
  subst hk
  rw [fitsB] at h
  simp only [Bool.or_eq_true, Bool.and_eq_true, decide_eq_true_eq, beq_iff_eq] at h
  unfold fitW
  exact decide_eq_true (by simp only; omega)
theorem fits_kind6 {vs : List KVar} {e : KE} {q : Nat} (hk : e.kind = 6) (h : fitsB vs e q = true) : e.tk = q ∧ (fitsA vs e.l 0 1 = true ∨ fitsA vs e.l 0 2 = true ∨ fitsA vs e.l 0 3 = true) := by
  obtain ⟨k, o, t, n, v, A, c, l⟩ := e
  simp only at hk
  subst hk
  rw [fitsB] at h
  simp only [Bool.or_eq_true, Bool.and_eq_true, beq_iff_eq] at h
  exact ⟨h.1, by rcases h.2 with (h | h) | h <;> simp [h]⟩
theorem fits_kind4 {vs : List KVar} {e : KE} {q : Nat} (hk : e.kind = 4) (h : fitsB vs e q = true) : (e.oper = 26 ∧ q = 3 ∧ fitsA vs e.l 0 3 = true) ∨ (e.oper ≠ 26 ∧ q = 1 ∧ fitsA vs e.l 0 1 = true) := by
  obtain ⟨k, o, t, n, v, A, c, l⟩ := e
  simp only at hk
  subst hk
  rw [fitsB] at h
  simp only at h ⊢
  split at h
  · rename_i ho; simp only [Bool.and_eq_true, beq_iff_eq] at h; exact .inl ⟨ho, h⟩
  · rename_i ho; simp only [Bool.and_eq_true, beq_iff_eq] at h; exact .inr ⟨ho, h⟩
theorem fits_kind5 {vs : List KVar} {e : KE} {q : Nat} (hk : e.kind = 5) (h : fitsB vs e q = true) :
    (e.oper ≤ 13 ∧ q = 1 ∧ fitsA vs e.l 0 1 = true ∧ fitsA vs e.l 1 1 = true) ∨ (14 ≤ e.oper ∧ q = 3 ∧ ∃ p, fitsA vs e.l 0 p = true ∧ fitsA vs e.l 1 p = true ∧ (e.oper = 20 ∨ e.oper = 21 → p = 3)) := by
  obtain ⟨k, o, t, n, v, A, c, l⟩ := e
  simp only at hk
  subst hk
  rw [fitsB] at h <;> try (intro hh; cases hh)
  simp only at h ⊢
  split at h
  · rename_i ho; simp only [Bool.and_eq_true, beq_iff_eq] at h; exact .inl ⟨ho, h.1, h.2.1, h.2.2⟩
  · rename_i ho
    split at h
    · cases h
    · rename_i hq
      have hq : q = 3 := by simpa using hq
      refine .inr ⟨by omega, hq, ?_⟩
      split at h
      · rename_i h14
        simp only [Bool.or_eq_true, Bool.and_eq_true] at h
        rcases h with (h | h) | h
        · exact ⟨1, h.1, h.2, by omega⟩
        · exact ⟨2, h.1, h.2, by omega⟩
        · exact ⟨3, h.1, h.2, by omega⟩
      · split at h
        · simp only [Bool.or_eq_true, Bool.and_eq_true] at h
          rcases h with h | h
          · exact ⟨1, h.1, h.2, by omega⟩
          · exact ⟨2, h.1, h.2, by omega⟩
        · split at h
          · simp only [Bool.and_eq_true] at h
            exact ⟨1, h.1, h.2, by omega⟩
          · simp only [Bool.and_eq_true] at h
            exact ⟨3, h.1, h.2, fun _ => rfl⟩
theorem at_fit {vs : List KVar} {ss : List RwL} (hst : storeB vs ss = true) {v i w : Int} {x : KVar} (hx : vs[v.toNat]? = some x) (hv : 0 ≤ v) (h : atV ss v i = some w) : fitW x.kind w = true := by
  have hl := storeB_len hst
  have hk := (List.getElem?_eq_some_iff.1 hx).1
  obtain ⟨k, rfl⟩ : ∃ k : Nat, v = k := ⟨v.toNat, by omega⟩
  rw [Int.toNat_natCast] at hx hk
  obtain ⟨r, hr⟩ : ∃ r, ss[k]? = some r := ⟨_, List.getElem?_eq_getElem (by omega)⟩
  have h1 := ((storeB_iff hl).1 hst _ _ _ hx hr).2
  rw [atV_of hr] at h
  split at h
  · cases h
  · rename_i hi
    have hil : i.toNat < r.l.length := by omega
    obtain rfl := Option.some.inj h
    rw [List.getD_eq_getElem?_getD, List.getElem?_eq_getElem hil, Option.getD_some]
    exact List.all_eq_true.1 h1 _ (List.getElem_mem _)
theorem value_fits {vs : List KVar} {ss : List RwL} (hst : storeB vs ss = true) {e : KE} (hf : fieldsB e = true) {q : Nat} (h : fitsB vs e q = true) {w : Int} (hw : valueE ss e = some w) : fitW q w = true := by
  have hk := fieldsB_kind hf
  match hl : e.l with
  | [] =>
    rw [hl] at hk
    simp at hk
    rw [valueE_0 hl] at hw
    rcases hk with hk | hk
    · rw [if_pos hk] at hw
      obtain rfl := Option.some.inj hw
      exact fits_kind1 hk h
    · rw [if_neg (by omega), if_pos hk] at hw
      obtain ⟨x, hx, -, rfl⟩ := fits_kind2 hk h
      exact at_fit hst hx (fields_v hf (.inl hk)).1 hw
  | [a] =>
    rw [hl] at hk
    simp at hk
    rw [valueE_1 hl] at hw
    cases hva : valueE ss a with
    | none => rw [hva] at hw; cases hw
    | some y =>
      rw [hva] at hw
      simp only [oneV] at hw
      rcases hk with hk | hk | hk
      · rw [if_pos hk] at hw
        obtain ⟨⟨x, hx, -, rfl⟩, -⟩ := fits_kind3 hk h
        exact at_fit hst hx (fields_v hf (.inr hk)).1 hw
      · rw [if_neg (by omega), if_pos hk] at hw
        rcases fits_kind4 hk h with ⟨ho, rfl, -⟩ | ⟨-, rfl, -⟩
        · rw [ho] at hw
          have hap : applyO 26 y 0 = if bit01 y then some (truthL (y == 0)) else none := rfl
          rw [hap] at hw
          split at hw
          · obtain rfl := Option.some.inj hw; exact truth_fit _
          · cases hw
        · exact fit_one w
      · rw [if_neg (by omega), if_neg (by omega), if_pos hk] at hw
        obtain ⟨rfl, -⟩ := fits_kind6 hk h
        unfold convO at hw
        split at hw
        · rename_i hc
          obtain rfl := Option.some.inj hw
          unfold fitW
          exact decide_eq_true (by omega)
        · cases hw
  | a :: b :: r =>
    have h5 := (fieldsB_len hf).2.2 (by have := (fieldsB_len hf).1; rw [hl] at this ⊢; simp at this ⊢; omega)
    rcases fits_kind5 h5.1 h with ⟨-, rfl, -⟩ | ⟨ho, rfl, -⟩
    · exact fit_one w
    · rw [valueE_2 hl] at hw
      cases hva : valueE ss a with
      | none => rw [hva] at hw; cases hw
      | some x =>
        rw [hva] at hw
        simp only at hw
        split at hw
        · rename_i hc
          obtain rfl := Option.some.inj hw
          unfold fitW
          exact decide_eq_true (by omega)
        · cases hvb : valueE ss b with
          | none => rw [hvb] at hw; cases hw
          | some y =>
            rw [hvb] at hw
            simp only at hw
            have hoc : e.oper = 14 ∨ e.oper = 15 ∨ e.oper = 16 ∨ e.oper = 17 ∨ e.oper = 18 ∨ e.oper = 19 ∨ e.oper = 20 ∨ e.oper = 21 ∨ e.oper = 22 := by omega
            have hif : ∀ (b1 b2 : Bool), (if b1 then some (truthL b2) else none) = some w → fitW 3 w = true := fun b1 b2 h => by
              cases b1 with
              | false => cases h
              | true => obtain rfl := Option.some.inj h; exact truth_fit _
            rcases hoc with ho | ho | ho | ho | ho | ho | ho | ho | ho
            all_goals rw [ho] at hw
            · obtain rfl := Option.some.inj (show some (truthL (x == y)) = some w from hw); exact truth_fit _
            · obtain rfl := Option.some.inj (show some (truthL (x != y)) = some w from hw); exact truth_fit _
            · obtain rfl := Option.some.inj (show some (truthL (decide (x < y))) = some w from hw); exact truth_fit _
            · obtain rfl := Option.some.inj (show some (truthL (decide (y < x))) = some w from hw); exact truth_fit _
            · obtain rfl := Option.some.inj (show some (truthL (decide (x ≤ y))) = some w from hw); exact truth_fit _
            · obtain rfl := Option.some.inj (show some (truthL (decide (y ≤ x))) = some w from hw); exact truth_fit _
            · exact hif _ _ (show (if bit01 x && bit01 y then some (truthL (x == 1 && y == 1)) else none) = some w from hw)
            · exact hif _ _ (show (if bit01 x && bit01 y then some (truthL (x == 1 || y == 1)) else none) = some w from hw)
            · obtain rfl := Option.some.inj (show some (truthL (decide (0 < wrap32 (x - y)))) = some w from hw); exact truth_fit _
theorem fits_bool {vs : List KVar} {ss : List RwL} (hst : storeB vs ss = true) (e : KE) : e.all (fun x => fieldsB x = true) → ∀ q, fitsB vs e q = true → e.all (BoolOk ss) := by
  induction e using KE.ind with
  | h e ih =>
    intro hall q h
    have hf := (KE.all_iff.1 hall).1
    have hpa := (KE.all_iff.1 hall).2
    have hk := fieldsB_kind hf
    have h01 : ∀ v, fitW 3 v = true → v = 0 ∨ v = 1 := fun v h => by have := of_decide_eq_true h; omega
    rw [KE.all_iff]
    match hl : e.l with
    | [] =>
      rw [hl] at hk
      simp at hk
      exact ⟨fun h => by omega, fun x hx => by simp at hx⟩
    | [a] =>
      have ma : a ∈ e.l := by rw [hl]; simp
      rw [hl] at hk
      simp at hk
      have hA : ∃ p, fitsB vs a p = true ∧ (e.kind = 4 ∧ e.oper = 26 → p = 3) := by
        have h0 : ∀ p, fitsA vs e.l 0 p = fitsB vs a p := fun p => fitsA_get (by rw [hl]; rfl)
        rcases hk with hk | hk | hk
        · have := (fits_kind3 hk h).2; rw [h0] at this; exact ⟨1, this, by omega⟩
        · rcases fits_kind4 hk h with ⟨-, -, h1⟩ | ⟨h1, -, h2⟩
          · rw [h0] at h1; exact ⟨3, h1, fun _ => rfl⟩
          · rw [h0] at h2; exact ⟨1, h2, by omega⟩
        · rcases (fits_kind6 hk h).2 with h1 | h1 | h1
          · rw [h0] at h1; exact ⟨1, h1, by omega⟩
          · rw [h0] at h1; exact ⟨2, h1, by omega⟩
          · rw [h0] at h1; exact ⟨3, h1, by omega⟩
      obtain ⟨p, hp, hp3⟩ := hA
      refine ⟨?_, ?_⟩
      · intro hc x hx v hv
        rw [hl] at hx
        simp at hx
        subst hx
        have : p = 3 := hp3 (by omega)
        subst this
        exact h01 v (value_fits hst (KE.all_iff.1 (hpa x ma)).1 hp hv)
      · intro x hx
        simp at hx
        subst hx
        exact ih x ma (hpa x ma) p hp
    | a :: b :: r =>
      have ma : a ∈ e.l := by rw [hl]; simp
      have mb : b ∈ e.l := by rw [hl]; simp
      have h5 := (fieldsB_len hf).2.2 (by have := (fieldsB_len hf).1; rw [hl] at this ⊢; simp at this ⊢; omega)
      have hr : r = [] := by
        have := (fieldsB_len hf).1
        rw [hl] at this
        simp only [List.length_cons] at this
        exact List.length_eq_zero_iff.1 (by omega)
      subst hr
      have hAB : ∃ p, fitsB vs a p = true ∧ fitsB vs b p = true ∧ (e.oper = 20 ∨ e.oper = 21 → p = 3) := by
        have h0 : ∀ p, fitsA vs e.l 0 p = fitsB vs a p := fun p => fitsA_get (by rw [hl]; rfl)
        have h1 : ∀ p, fitsA vs e.l 1 p = fitsB vs b p := fun p => fitsA_get (by rw [hl]; rfl)
        rcases fits_kind5 h5.1 h with ⟨ho, -, h2, h3⟩ | ⟨-, -, p, h2, h3, h4⟩
        · rw [h0] at h2; rw [h1] at h3; exact ⟨1, h2, h3, by omega⟩
        · rw [h0] at h2; rw [h1] at h3; exact ⟨p, h2, h3, h4⟩
      obtain ⟨p, hpa1, hpb1, hp3⟩ := hAB
      refine ⟨?_, ?_⟩
      · intro hc x hx v hv
        have : p = 3 := hp3 (by omega)
        subst this
        rw [hl] at hx
        simp at hx
        rcases hx with rfl | rfl
        · exact h01 v (value_fits hst (KE.all_iff.1 (hpa x ma)).1 hpa1 hv)
        · exact h01 v (value_fits hst (KE.all_iff.1 (hpa x mb)).1 hpb1 hv)
      · intro x hx
        simp at hx
        rcases hx with rfl | rfl
        · exact ih x ma (hpa x ma) p hpa1
        · exact ih x mb (hpa x mb) p hpb1
end Go.Proofs.YtbefmlioampgcaaGreatDoor

/- What mark has laid, and the run of an expression's code over it; plain. -/
namespace Go.Proofs.YtbefmlioampgcaaGreatDoor
open Go.RowKit
set_option linter.unusedVariables false
set_option linter.unusedSimpArgs false

def adrG (g : EmL) (k : Nat) : Nat := (varD g (k : Int)).toNat
def rowS (ss : List RwL) (k : Nat) : List Int := (ss.getD k default).l
/-- A word that belongs to a variable holds its value. -/
def InvW (g : EmL) (ss : List RwL) (s : Wo) : Prop := ∀ j k : Nat, s.2[j]? = some ((k : Int) + 1) → adrG g k ≤ j ∧ j < adrG g k + (rowS ss k).length ∧ s.1[j]? = (rowS ss k)[j - adrG g k]?
/-- What belongs to somebody stays his. -/
def MonoW (s s' : Wo) : Prop := (∀ j k : Nat, s.2[j]? = some ((k : Int) + 1) → s'.2[j]? = some ((k : Int) + 1)) ∧ ∀ j : Nat, s.2[j]? = some (-1) → s'.2[j]? = some (-1)
theorem MonoW.refl (s : Wo) : MonoW s s := ⟨fun _ _ h => h, fun _ h => h⟩
theorem MonoW.trans {s s' s'' : Wo} (h : MonoW s s') (k : MonoW s' s'') : MonoW s s'' := ⟨fun j q x => k.1 j q (h.1 j q x), fun j x => k.2 j (h.2 j x)⟩
theorem putV_inv {g : EmL} {ss : List RwL} {n k : Nat} : ∀ {xs : List Int} {i0 : Nat} {s s' : Wo}, xs = (rowS ss k).drop i0 → i0 ≤ (rowS ss k).length → adrG g k + (rowS ss k).length ≤ n → s.1.length = n ∧ s.2.length = n → InvW g ss s → putV (k : Int) (adrG g k + i0) xs s = some s' →
    InvW g ss s' ∧ MonoW s s' ∧ ∀ i, i < xs.length → s'.2[adrG g k + i0 + i]? = some ((k : Int) + 1)
  | [], i0, s, s', _, _, _, _, hi, h => by
    rw [putV] at h
    obtain rfl := Option.some.inj h
    exact ⟨hi, MonoW.refl _, by simp⟩
  | x :: xs, i0, s, s', hx, hi0, hn, hs, hi, h => by
    rw [putV] at h
    split at h
    · cases h
    rename_i hc
    have hlen : (x :: xs).length = (rowS ss k).length - i0 := by rw [hx, List.length_drop]
    simp only [List.length_cons] at hlen
    have hx0 : (rowS ss k)[i0]? = some x := by
      have : ((rowS ss k).drop i0)[0]? = some x := by rw [← hx]; rfl
      rw [List.getElem?_drop] at this
      simpa using this
    have hx1 : xs = (rowS ss k).drop (i0 + 1) := by
      have := congrArg List.tail hx
      simpa [List.tail_drop] using this
    have hqn : adrG g k + i0 < n := by omega
    obtain ⟨ov, hov⟩ : ∃ o, s.2[adrG g k + i0]? = some o := ⟨_, List.getElem?_eq_getElem (by rw [hs.2]; exact hqn)⟩
    have hgd : s.2.getD (adrG g k + i0) 0 = ov := by rw [List.getD_eq_getElem?_getD, hov]; rfl
    rw [hgd] at hc
    have hself1 : (s.1.set (adrG g k + i0) x)[adrG g k + i0]? = some x := List.getElem?_set_self (by rw [hs.1]; exact hqn)
    have hself2 : (s.2.set (adrG g k + i0) ((k : Int) + 1))[adrG g k + i0]? = some ((k : Int) + 1) := List.getElem?_set_self (by rw [hs.2]; exact hqn)
    have hmono : MonoW s (s.1.set (adrG g k + i0) x, s.2.set (adrG g k + i0) ((k : Int) + 1)) := by
      refine ⟨fun j q hj => ?_, fun j hj => ?_⟩
      · by_cases hja : j = adrG g k + i0
        · subst hja
          rw [hov] at hj
          have hjo := Option.some.inj hj
          have : q = k := by omega
          subst this
          exact hself2
        · simp only; rw [List.getElem?_set_ne (by omega)]; exact hj
      · by_cases hja : j = adrG g k + i0
        · subst hja
          rw [hov] at hj
          have hjo := Option.some.inj hj
          omega
        · simp only; rw [List.getElem?_set_ne (by omega)]; exact hj
    have hinv : InvW g ss (s.1.set (adrG g k + i0) x, s.2.set (adrG g k + i0) ((k : Int) + 1)) := by
      intro j q hj
      simp only at hj ⊢
      by_cases hja : j = adrG g k + i0
      · subst hja
        rw [hself2] at hj
        have hjo := Option.some.inj hj
        have : q = k := by omega
        subst this
        refine ⟨by omega, by omega, ?_⟩
        rw [hself1, show adrG g q + i0 - adrG g q = i0 by omega, hx0]
      · rw [List.getElem?_set_ne (by omega)] at hj
        rw [List.getElem?_set_ne (by omega)]
        exact hi j q hj
    have hlen2 : (s.2.set (adrG g k + i0) ((k : Int) + 1)).length = n := by rw [List.length_set]; exact hs.2
    have hlen1 : (s.1.set (adrG g k + i0) x).length = n := by rw [List.length_set]; exact hs.1
    have hrec := putV_inv (g := g) (ss := ss) (n := n) (k := k) (xs := xs) (i0 := i0 + 1) hx1 (by omega) hn ⟨hlen1, hlen2⟩ hinv (by rw [← Nat.add_assoc]; exact h)
    refine ⟨hrec.1, hmono.trans hrec.2.1, ?_⟩
    intro i hi1
    cases i with
    | zero => rw [Nat.add_zero]; exact hrec.2.1.1 _ _ hself2
    | succ i =>
      have := hrec.2.2 i (by simp only [List.length_cons] at hi1; omega)
      rw [show adrG g k + i0 + (i + 1) = adrG g k + (i0 + 1) + i by omega]
      exact this
/-- The part's variable has its words. -/
def DoneW (g : EmL) (ss : List RwL) (s : Wo) (x : KE) : Prop := x.kind = 2 ∨ x.kind = 3 → ∀ i, i < (rowS ss x.v.toNat).length → s.2[adrG g x.v.toNat + i]? = some ((x.v.toNat : Int) + 1)
theorem DoneW.mono {g : EmL} {ss : List RwL} {s s' : Wo} (h : MonoW s s') {x : KE} (hd : DoneW g ss s x) : DoneW g ss s' x := fun hk i hi => h.1 _ _ (hd hk i hi)
theorem markE_inv {g : EmL} {ss : List RwL} (hst : ∀ r ∈ ss, ∀ v ∈ r.l, is32 v) {n : Nat} (e : KE) : e.all (MarkOk g ss n) → ∀ {s s' : Wo}, WoOk n s → InvW g ss s → markE g ss e s = some s' → InvW g ss s' ∧ MonoW s s' ∧ e.all (DoneW g ss s') := by
  induction e using KE.ind with
  | h e ih =>
    intro hall s s' hs hi h
    obtain ⟨hmk, hpa⟩ := KE.all_iff.1 hall
    rw [markE_eq] at h
    cases hx : mark0 g ss e s with
    | none => rw [hx] at h; cases h
    | some s1 =>
      rw [hx] at h
      simp only at h
      have hs1 := mark0_ok hst hs hx
      have h1 : InvW g ss s1 ∧ MonoW s s1 ∧ DoneW g ss s1 e := by
        unfold mark0 at hx
        split at hx
        · rename_i hk
          obtain ⟨a, k, r, hva, hev, -, hr, har, -⟩ := hmk hk
          have hrow : rowS ss k = r.l := by unfold rowS; rw [List.getD_eq_getElem?_getD, hr]; rfl
          have hadr : adrG g k = a := by unfold adrG varD; rw [← hev, hva]; rfl
          have hve : e.v.toNat = k := by rw [hev]; rfl
          rw [hve] at hx
          have hx2 : putV (k : Int) (adrG g k + 0) (rowS ss k) s = some s1 := by
            rw [hev] at hx
            exact hx
          have h2 := putV_inv (g := g) (ss := ss) (n := n) (k := k) (xs := rowS ss k) (i0 := 0) (by simp) (by omega) (by rw [hrow, hadr]; omega) ⟨hs.1, hs.2.1⟩ hi hx2
          refine ⟨h2.1, h2.2.1, fun _ i hi => ?_⟩
          rw [hve] at hi ⊢
          have := h2.2.2 i hi
          rwa [Nat.add_zero] at this
        · rename_i hk
          obtain rfl := Option.some.inj hx
          exact ⟨hi, MonoW.refl _, fun hk2 => absurd hk2 hk⟩
      have hl : ∀ (l : List KE), (∀ x ∈ l, x ∈ e.l) → ∀ {s1 s' : Wo}, WoOk n s1 → InvW g ss s1 → markL g ss l s1 = some s' → InvW g ss s' ∧ MonoW s1 s' ∧ ∀ x ∈ l, x.all (DoneW g ss s') := by
        intro l
        induction l with
        | nil =>
          intro _ s1 s' _ hi1 hm
          rw [markL] at hm
          obtain rfl := Option.some.inj hm
          exact ⟨hi1, MonoW.refl _, by simp⟩
        | cons y l ihl =>
          intro hsub s1 s' hw1 hi1 hm
          rw [markL] at hm
          cases hy : markE g ss y s1 with
          | none => rw [hy] at hm; cases hm
          | some s2 =>
            rw [hy] at hm
            simp only at hm
            obtain ⟨q1, q2, q3⟩ := ih y (hsub y (by simp)) (hpa y (hsub y (by simp))) hw1 hi1 hy
            obtain ⟨p1, p2, p3⟩ := ihl (fun x hx => hsub x (by simp [hx])) (markE_ok hst y hw1 hy) q1 hm
            refine ⟨p1, q2.trans p2, fun x hx => ?_⟩
            rcases List.mem_cons.1 hx with rfl | hx
            · exact KE.all_imp (fun z hz => hz.mono p2) x q3
            · exact p3 x hx
      obtain ⟨h2, h3, h4⟩ := hl e.l (fun x hx => hx) hs1 h1.1 h
      exact ⟨h2, h1.2.1.trans h3, KE.all_iff.2 ⟨h1.2.2.mono h3, h4⟩⟩
theorem inv_zero (g : EmL) (ss : List RwL) (fill : Int) (t k n : Nat) : InvW g ss (fillL fill n, ownL t k n) := by
  intro j q hj
  exfalso
  simp only [ownL] at hj
  rw [List.getElem?_map] at hj
  cases hr : (List.range n)[j]? with
  | none => rw [hr] at hj; cases hj
  | some i =>
    rw [hr] at hj
    simp only [Option.map_some] at hj
    have := Option.some.inj hj
    split at this <;> omega
/-- The run of an expression's code over words that lay has made: its value, or a fault. -/
theorem lay_value {g : EmL} {e : KE} {temp n fill : Int} {ss : List RwL} {s : Wo} (hn : layN g e temp ss = some n) (hw : layW g e temp ss fill n = some s) (hst : ∀ r ∈ ss, ∀ v ∈ r.l, is32 v)
    (h32 : e.all (fun x => is32 x.n)) {q : Nat} (hfit : fitsB g.vars e q = true) :
    errC g e temp = 0 ∧ s.1.length = n.toNat ∧ (∀ x ∈ s.1, is32 x) ∧ runQ (codeE g.env e temp 0).1 s.1 = match valueE ss e with
      | some v => (v, false, 0)
      | none => (0, true, 0) := by
  obtain ⟨h1, h2, h3, h4, h5, h6⟩ := layN_some hn
  obtain ⟨hv, ht0, ht1, -⟩ := validC_e h2
  have hall := validE_all hv
  have hdims : allE (dimsB g) e = true := by
    unfold validC at h2
    simp only [Bool.and_eq_true] at h2
    exact h2.2
  have hdim64 : ∀ x ∈ g.vars, 0 ≤ x.dim ∧ x.dim ≤ 64 := fun x hx => by
    unfold validC at h2
    simp only [Bool.and_eq_true] at h2
    exact of_decide_eq_true (List.all_eq_true.1 h2.1.2 x hx)
  have hmk := mark_ok hall hdims h4 h5
  have hok := markE_ok hst e (wo_ok fill temp.toNat (tempsV e) n.toNat) hw
  obtain ⟨hinv, hmono, hdone⟩ := markE_inv hst e hmk (wo_ok fill temp.toNat (tempsV e) n.toNat) (inv_zero g ss fill _ _ _) hw
  have htv : tempsV e = tempsE e := by unfold tempsV; rw [if_pos hv]
  have htm := offsE_temps h5
  rw [htv] at htm
  have hlen : s.1.length = n.toNat := hok.1
  have hneg : ∀ j : Nat, temp ≤ (j : Int) → (j : Int) < temp + tempsE e → s.2[j]? = some (-1) := fun j hj1 hj2 => by
    refine hmono.2 j ?_
    simp only [ownL]
    rw [List.getElem?_map, List.getElem?_range (by omega)]
    simp only [Option.map_some]
    rw [htv, if_pos (by omega)]
  have hpt : e.all (PtOk g.env ss s.1 temp (temp + tempsE e)) := by
    have hoffs := offsE_all e h5
    have hd1 := (allE_iff e).1 hdims
    have hboth : e.all (fun x => is32 x.n ∧ fieldsB x = true ∧ dimsB g x = true ∧ MarkOk g ss n.toNat x ∧ DoneW g ss s x ∧ ∃ m, offs0 g temp x = some m ∧ m ≤ n) := by
      clear hn hw hfit h2 h3 h5 hv hdims hok hinv hmono htv htm hneg
      induction e using KE.ind with
      | h e ih =>
        rw [KE.all_iff] at h32 hall hd1 hmk hdone hoffs ⊢
        exact ⟨⟨h32.1, hall.1, hd1.1, hmk.1, hdone.1, hoffs.1⟩, fun x hx => ih x hx (h32.2 x hx) (hall.2 x hx) (hmk.2 x hx) (hdone.2 x hx) (hoffs.2 x hx) (hd1.2 x hx)⟩
    refine KE.all_imp ?_ e hboth
    rintro x ⟨hx32, hxf, hxd, hxm, hxw, m, hxo, hxo2⟩
    refine ⟨hx32, fun hk => ?_⟩
    obtain ⟨a, k, r, hva, hev, hk256, hr, har, hn0⟩ := hxm hk
    obtain ⟨a2, hva2, ha0, ha1, -⟩ := offs0_var hxo hk
    obtain rfl : a2 = (a : Int) := by rw [hva] at hva2; exact (Option.some.inj hva2).symm
    have hl := storeB_len h4
    have hks := (List.getElem?_eq_some_iff.1 hr).1
    obtain ⟨y, hy⟩ : ∃ y, g.vars[k]? = some y := ⟨_, List.getElem?_eq_getElem (by omega)⟩
    have hrl := ((storeB_iff hl).1 h4 _ _ _ hy hr).1
    have hyd := hdim64 y (List.mem_of_getElem? hy)
    have hve : x.v.toNat = k := by rw [hev]; rfl
    have hgd : (g.vars.getD x.v.toNat ⟨0, 0⟩).dim = y.dim := by rw [hve, List.getD_eq_getElem?_getD, hy]; rfl
    have hrow : rowS ss k = r.l := by unfold rowS; rw [List.getD_eq_getElem?_getD, hr]; rfl
    have hadr : adrG g k = a := by unfold adrG varD; rw [← hev, hva]; rfl
    refine ⟨a, k, r, ?_, hev, hr, fun v hv => hst r (List.mem_of_getElem? hr) v hv, by omega, by omega, ?_, by rw [hlen]; exact har, ?_⟩
    · show wrap32 ((varL g.s g.frame x.v).getD 0) = (a : Int)
      rw [hva]
      simp only [Option.getD_some]
      unfold wrap32
      omega
    · intro hk3
      show wrap32 (g.vars.getD x.v.toNat ⟨0, 0⟩).dim = (r.l.length : Nat)
      have hdn : ¬ y.dim = 0 := by
        have := hxd
        unfold dimsB at this
        rw [if_neg (by omega), if_pos hk3, hgd] at this
        exact (of_decide_eq_true this).2
      rw [hgd]
      unfold wrap32
      omega
    · intro i hi
      have hd := hxw hk i (by rw [hve, hrow]; exact hi)
      rw [hve, hadr] at hd
      have hiv := (hinv _ _ hd).2.2
      rw [hadr, hrow, show a + i - a = i by omega] at hiv
      refine ⟨hiv, fun hc => ?_⟩
      have := hneg (a + i) hc.1 hc.2
      rw [hd] at this
      have := Option.some.inj this
      omega
  have hbo := fits_bool h4 e hall q hfit
  have hgood := code_good g.env ss s.1 temp (temp + tempsE e) (by omega) ht0 (by omega) (fun v => by show is32 (wrap32 _); unfold is32 wrap32; omega) e hall hpt hbo temp 0 (Int.le_refl _) (Int.le_refl _)
  have h0 : is32 0 := is32_0
  have hrun := hgood [] ⟨0, 0, 0, false⟩ s.1 ⟨⟨h0, h0, h0⟩, hok.2.2, rfl⟩ rfl ⟨rfl, fun _ _ => rfl⟩
  have hcl := (code_len g.env e temp 0).1
  have hnd := valid_nodes hv
  refine ⟨errC_0 h2 h3, hlen, hok.2.2, ?_⟩
  unfold runQ
  rw [if_neg (by omega), if_neg (by rw [code_fault g.env e hall temp 0]; simp)]
  rw [List.append_nil] at hrun
  cases hval : valueE ss e with
  | some v =>
    obtain ⟨b, c, m', k1, -⟩ := hrun.1 v hval
    rw [k1, runS]
    rfl
  | none =>
    rcases hrun.2 hval with k1 | ⟨r', m', k1, -, k3⟩
    · exact k1
    · rw [k1, runS, if_pos k3]
end Go.Proofs.YtbefmlioampgcaaGreatDoor
