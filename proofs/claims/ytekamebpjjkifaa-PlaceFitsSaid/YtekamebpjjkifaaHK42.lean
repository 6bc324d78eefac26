/- Texts that belong together, joined: what each one holds is told ahead of it. -/
import Derived.Test.YtekamebpjjkifaaHK41
import Derived.Test.YtekamebpjjkifaaHK35
import Derived.Test.YtekamebpjjkifaaHK36
import Derived.ChangeKeysEq
import Derived.Test.YtekamebpjjkifaaHK15
import Derived.Test.YtekamebpjjkifaaHK1
/- The first free wire between two nodes: free, walked. -/
namespace Go.Proofs.Ytekamebpjjkifaa
open Go.RowKit Go.Maps
set_option linter.unusedSimpArgs false
set_option linter.unusedVariables false

/-- The first wire, of the last n links of a node, that leads to a node and is not taken. -/
def freeN (t : TN) (tk : Pt → Bool) (fr dn : Int) : Nat → Option (Pt × Pt)
  | 0 => none
  | n + 1 => match rpeerOf t.N t.ws t.hn t.hl fr (3 - (n : Int)) with
    | some q => if q.1 = dn ∧ tk (fr, 3 - (n : Int)) = false then some ((fr, 3 - (n : Int)), q) else freeN t tk fr dn n
    | none => freeN t tk fr dn n
def freeV : Option (Pt × Pt) → Plc × Bool
  | some (p, q) => (⟨0, p, q⟩, true)
  | none => (plcZ, false)
/-- What the map of taken ports holds. -/
def tkF (tk : Pt → Bool) (p : Pt) : Option (DataW Unit) := if tk p then some (.lit (.bool true)) else none
abbrev okPt (p : Int × Int) : Prop := i64ok p.1 ∧ i64ok p.2
structure FrS (w W : World) (t : TN) : Prop where
  bel : Below w.heap.size w W
  tb : Blk W w.heap.size 40 t.flat
  rb : Blk W (w.heap.size + 1) 56 #[.int .i64 0, .int .i64 0, .int .i64 0, .int .i64 0, .int .i64 0]
theorem FrS.call {w W W1 : World} {t : TN} (h : FrS w W t) (hb : Below W.heap.size W W1) : FrS w W1 t := ⟨h.bel.trans (hb.mono h.bel.size), h.tb.call hb, h.rb.call hb⟩
theorem zero_bool0 (w : World) : (zeroValue 4).run Try.prog w = .ok (.bool false) w := by kernel_rfl
set_option maxRecDepth 100000 in
/-- A lookup of a taken port. -/
theorem tk_look {w : World} {b n : Nat} {tk : Pt → Bool} (h : MapF Try.prog 38 4 okPt portKey w b n (tkF tk)) {p : Pt} (hp : okPt p) : (Instr.lookup 74 (.map (some b)) (.agg #[.int .i64 p.1, .int .i64 p.2]) false).run Try.prog w = .ok (.bool (tk p)) w := by
  obtain ⟨v, ps, hrun, hv⟩ := h.look portEnc Try.underlying74 (zero_bool0 w) (plainElem_bool Try.underlying4 false) hp
  have hb : v = .bool (tk p) := by
    unfold plainElem at hv
    rw [Try.underlying4] at hv
    cases v <;> simp at hv
    obtain ⟨hv, -⟩ := hv
    unfold tkF at hv
    split at hv
    · rename_i ht
      simp at hv
      rw [ht, hv]
    · rename_i ht
      simp at hv
      rw [Bool.not_eq_true] at ht
      rw [ht, hv]
  rw [hb] at hrun
  exact hrun
theorem results_cell_tmp' {P : Program} {fn : Func} {p u : Tmp} {ty : TypeId} (h : fn.results = #[.cell p ty, .tmp u]) (tmps : Array Value) (w : World) {a : Addr} {v1 v2 : Value} (hp : tmps.getD p undef = .pointer (some a)) (hu : tmps.getD u undef = v2)
    (h1 : (loadVar ty a).run P w = .ok v1 w) : (results fn tmps).run P w = .ok (.tuple #[v1, v2]) w := by
  have hp' : tmps[p]?.getD undef = .pointer (some a) := by simpa using hp
  have hu' : tmps[u]?.getD undef = v2 := by simpa using hu
  simp only [results, h]
  simp [Sem.run_bind, Result.andThen, hp', hu', asAddr, h1]
set_option maxRecDepth 100000 in
set_option maxHeartbeats 8000000 in
theorem pFree (t : TN) (ht : t.ws.length ≤ 1000000) (tk : Pt → Bool) (b n : Nat) (fr dn : Int) (hfr : i64ok fr) (B : Nat) (w : World) (hi : t.In w B) (hB : B ≤ w.heap.size) (hm : MapF Try.prog 38 4 okPt portKey w b n (tkF tk)) :
    Calls Try.prog 25 #[.agg t.flat, .map (some b), .int .i64 fr, .int .i64 dn] w (RetV (.tuple #[.agg (Plc.cells (freeV (freeN t tk fr dn 4)).1), .bool (freeV (freeN t tk fr dn 4)).2]) w) := by
  obtain ⟨W0, hW0⟩ : ∃ W, (w.alloc (.cells t.flat 40)).alloc (.cells #[.int .i64 0, .int .i64 0, .int .i64 0, .int .i64 0, .int .i64 0] 56) = W := ⟨_, rfl⟩
  obtain ⟨l1, l2, l3⟩ := lay2 w t.flat #[.int .i64 0, .int .i64 0, .int .i64 0, .int .i64 0, .int .i64 0] 40 56
  rw [hW0] at l1 l2 l3
  have S : Hid (FrS w W0 t) := Lib.hid ⟨l1, l2, l3⟩
  have HP : Hid (∀ (l : Int) (w1 : World), Below w.heap.size w w1 → Calls Try.prog 15 #[.agg t.flat, .agg #[.int .i64 fr, .int .i64 l]] w1 (RetV (peerV (rpeerOf t.N t.ws t.hn t.hl fr l)) w1)) := Lib.hid fun l w1 hb => tPeer t.N t.hn t.hl fr l t.A t.ws.length t.c t.ws w1 ((hi.below (hb.mono hB)).top (Nat.le_trans hB hb.size)) ht
  have HM : Hid (∀ w1 : World, Below w.heap.size w w1 → MapF Try.prog 38 4 okPt portKey w1 b n (tkF tk)) := Lib.hid fun w1 hb => hm.call hb
  have HFR := Lib.hid hfr
  obtain ⟨R, hR⟩ : ∃ R, freeN t tk fr dn 4 = R := ⟨_, rfl⟩
  have HR : Hid (∀ i : Nat, i = 0 → freeN t tk fr dn (4 - i) = R) := Lib.hid fun i h => by subst h; exact hR
  rw [hR]
  simp only [TN.flat] at l2 HP hW0 ⊢
  have q0 := l2.cell 0
  have q1 := l2.cell 1
  have q2 := l2.cell 2
  have q3 := l2.cell 3
  simp at q0 q1 q2 q3
  clear l1 l2 l3 hi hm hfr hR
  go_enter Try.func25, Try.ntmps25
  go_wp2_with fail
  go_loopw [14] (fun i W => ∃ j : Nat, j ≤ 4 ∧ i = .int .i64 j ∧ Hid (FrS w W t) ∧ Hid (freeN t tk fr dn (4 - j) = R)) (fun i _ => 4 - (intOf i).toNat)
  case atStart => exact ⟨0, by omega, rfl, S, Lib.hid (HR.out 0 rfl)⟩
  case round =>
    clear S HR q0 q1 q2 q3
    obtain ⟨j, hj, rfl, S, HR⟩ := hrel
    have x1 := S.out.tb
    simp only [TN.flat] at x1
    have q0 := x1.cell 0
    have q1 := x1.cell 1
    have q2 := x1.cell 2
    have q3 := x1.cell 3
    simp at q0 q1 q2 q3
    clear x1
    by_cases hlt : j < 4
    · have hltI : (j : Int) < 4 := by omega
      have hstep : freeN t tk fr dn (4 - j) = match rpeerOf t.N t.ws t.hn t.hl fr (j : Int) with
          | some p => if p.1 = dn ∧ tk (fr, (j : Int)) = false then some ((fr, (j : Int)), p) else freeN t tk fr dn (4 - (j + 1))
          | none => freeN t tk fr dn (4 - (j + 1)) := by
        have e1 : 4 - j = (4 - (j + 1)) + 1 := by omega
        have e2 : (3 : Int) - ((4 - (j + 1) : Nat) : Int) = (j : Int) := by omega
        rw [e1, freeN, e2]
      have HC := Lib.hid (HP.out (j : Int))
      obtain ⟨W1, hW1⟩ : ∃ W, wr.alloc (.cells #[.int .i64 fr, .int .i64 (j : Int)] 38) = W := ⟨_, rfl⟩
      have k1 : Below wr.heap.size wr W1 := by rw [← hW1]; exact (Below.refl _ _).alloc (Nat.le_refl _) _
      have bp : Blk W1 wr.heap.size 38 #[.int .i64 fr, .int .i64 (j : Int)] := by rw [← hW1]; exact Blk.new _ _ _
      have S1 := Lib.hid (S.out.call k1)
      have HBP := Lib.hid bp
      clear k1 bp S
      have HST := Lib.hid (hstep.symm.trans HR.out)
      clear hstep HR
      go_upto_region 5 with fail
      clear hW1 q0 q1 q2 q3
      have x1 := S1.out.tb
      simp only [TN.flat] at x1
      have q0 := x1.cell 0
      have q1 := x1.cell 1
      have q2 := x1.cell 2
      have q3 := x1.cell 3
      simp at q0 q1 q2 q3
      have p0 := HBP.out.cell 0
      have p1 := HBP.out.cell 1
      simp at p0 p1
      clear x1
      cases ho : rpeerOf t.N t.ws t.hn t.hl fr (j : Int) with
      | none =>
        rw [ho] at HC HST
        simp only [peerV] at HC
        have HR2 : Hid (freeN t tk fr dn (4 - (j + 1)) = R) := Lib.hid HST.out
        clear HST ho
        go_upto_region 6 with (first
          | (go_at_call 15; (with_reducible refine (HC.out _ S1.out.bel).mono ?_); rintro e1 w2 ⟨rfl, hb2⟩))
        have S2 := Lib.hid ((S1.out.call hb2).call ((Below.refl _ _).alloc (Nat.le_refl _) (.cells #[.int .i64 0, .int .i64 0] 38)))
        clear hb2 q0 q1 q2 q3 p0 p1 S1 HBP
        go_wp2
        go_roundw
        case rel => exact ⟨j + 1, by omega, by go_num, S2, HR2⟩
        case measure => simp [intOf]; omega
      | some pq =>
        obtain ⟨q1', q2'⟩ := pq
        rw [ho] at HC HST
        simp only [peerV] at HC
        have HST2 : Hid ((if q1' = dn ∧ tk (fr, (j : Int)) = false then some ((fr, (j : Int)), (q1', q2')) else freeN t tk fr dn (4 - (j + 1))) = R) := Lib.hid HST.out
        clear HST ho
        go_upto_region 6 with (first
          | (go_at_call 15; (with_reducible refine (HC.out _ S1.out.bel).mono ?_); rintro e1 w2 ⟨rfl, hb2⟩))
        have ka : Below w2.heap.size w2 (w2.alloc (.cells #[.int .i64 q1', .int .i64 q2'] 38)) := (Below.refl _ _).alloc (Nat.le_refl _) _
        have S3 := Lib.hid ((S1.out.call hb2).call ka)
        have bp := (HBP.out.call hb2).call ka
        have bq := Blk.new w2 38 #[.int .i64 q1', .int .i64 q2']
        have hlook := tk_look (HM.out _ S3.out.bel) (p := (fr, (j : Int))) ⟨HFR.out, by unfold i64ok; simp; omega⟩
        simp only at hlook
        clear hb2 q0 q1 q2 q3 p0 p1 S1 HBP ka HC
        generalize w2.alloc _ = w3 at *
        have p0 := bp.cell 0
        have p1 := bp.cell 1
        have r0 := bq.cell 0
        have r1 := bq.cell 1
        simp at p0 p1 r0 r1
        clear bp bq
        by_cases hq : q1' = dn
        · have yq : (q1' == dn) = true := by simp [hq]
          cases htk : tk (fr, (j : Int)) with
          | false =>
            rw [htk] at hlook
            have HR2 : Hid (R = some ((fr, (j : Int)), (q1', q2'))) := Lib.hid (by have := HST2.out; rw [if_pos ⟨hq, htk⟩] at this; exact this.symm)
            have f0 := S3.out.rb.frozen 0
            have f1 := S3.out.rb.frozen 1
            have f2 := S3.out.rb.frozen 2
            have f3 := S3.out.rb.frozen 3
            have f4 := S3.out.rb.frozen 4
            have d0 := S3.out.rb.cell 0
            have d1 := S3.out.rb.cell 1
            have d2 := S3.out.rb.cell 2
            have d3 := S3.out.rb.cell 3
            have d4 := S3.out.rb.cell 4
            simp at d0 d1 d2 d3 d4
            clear htk hq HST2
            go_wp2
            obtain rfl := HR2.out
            have bF := (((((S3.out.rb.set_ 0 (.int .i64 0)).set_ 1 (.int .i64 fr)).set_ 2 (.int .i64 (j : Int))).set_ 3 (.int .i64 q1')).set_ 4 (.int .i64 q2'))
            refine bodyPost_ret (v := .tuple #[.agg (Plc.cells ⟨0, (fr, (j : Int)), (q1', q2')⟩), .bool true]) (results_cell_tmp' rfl _ _ rfl rfl (run_loadVar_row _ (w.heap.size + 1) _ _ (Plc.cells ⟨0, (fr, (j : Int)), (q1', q2')⟩) (0, 0) _ bF Try.underlying56 rfl (by kernel_rfl))) rfl ⟨rfl, ?_⟩
            exact ((((S3.out.bel.setCell (by simp) _).setCell (by simp) _).setCell (by simp) _).setCell (by simp) _).setCell (by simp) _
          | true =>
            rw [htk] at hlook
            have HR2 : Hid (freeN t tk fr dn (4 - (j + 1)) = R) := Lib.hid (by have := HST2.out; rw [if_neg (by rw [htk]; simp)] at this; exact this)
            clear htk hq HST2
            go_wp2
            go_roundw
            case rel => exact ⟨j + 1, by omega, by go_num, S3, HR2⟩
            case measure => simp [intOf]; omega
        · have yq : (q1' == dn) = false := by simp [hq]
          have HR2 : Hid (freeN t tk fr dn (4 - (j + 1)) = R) := Lib.hid (by have := HST2.out; rw [if_neg (by simp [hq])] at this; exact this)
          clear hq HST2
          go_wp2
          go_roundw
          case rel => exact ⟨j + 1, by omega, by go_num, S3, HR2⟩
          case measure => simp [intOf]; omega
    · have hltI : ¬ (j : Int) < 4 := by omega
      obtain rfl : j = 4 := by omega
      have HR3 : Hid (R = none) := Lib.hid HR.out.symm
      have f0 := S.out.rb.frozen 0
      have f1 := S.out.rb.frozen 1
      have f2 := S.out.rb.frozen 2
      have f3 := S.out.rb.frozen 3
      have f4 := S.out.rb.frozen 4
      have d0 := S.out.rb.cell 0
      have d1 := S.out.rb.cell 1
      have d2 := S.out.rb.cell 2
      have d3 := S.out.rb.cell 3
      have d4 := S.out.rb.cell 4
      simp at d0 d1 d2 d3 d4
      go_wp2
      obtain rfl := HR3.out
      have bF := (((((S.out.rb.set_ 0 (.int .i64 0)).set_ 1 (.int .i64 0)).set_ 2 (.int .i64 0)).set_ 3 (.int .i64 0)).set_ 4 (.int .i64 0))
      refine bodyPost_ret (v := .tuple #[.agg (Plc.cells plcZ), .bool false]) (results_cell_tmp' rfl _ _ rfl rfl (run_loadVar_row _ (w.heap.size + 1) _ _ (Plc.cells plcZ) (0, 0) _ bF Try.underlying56 rfl (by kernel_rfl))) rfl ⟨rfl, ?_⟩
      exact ((((S.out.bel.setCell (by simp) _).setCell (by simp) _).setCell (by simp) _).setCell (by simp) _).setCell (by simp) _
end Go.Proofs.Ytekamebpjjkifaa

/- Placings made: what Make is to answer, in plain words. -/
namespace Go.Proofs.Ytekamebpjjkifaa
open Go.RowKit Go.Maps
set_option linter.unusedSimpArgs false
set_option linter.unusedVariables false

/-- The placing of one channel. -/
def pickP (k : KK) (t : TN) (tk : Pt → Bool) (x : Int × Int × Int) : Option Plc :=
  if (hostQ k t x).2.1 = true then (if (hostQ k t x).2.2 = true then some (hostQ k t x).1 else none)
  else match freeN t tk (nodeI k t x.2.1.toNat) (nodeI k t x.2.2.toNat) 4 with
    | some (p, q) => some ⟨x.1, p, q⟩
    | none => none
def tkOf (d : List Plc) (p : Pt) : Bool := decide (p ∈ d.map (·.o))
def makeN (k : KK) (t : TN) (l : List (Int × Int × Int)) : Nat → Option (List Plc)
  | 0 => some []
  | j + 1 => match makeN k t l j with
    | none => none
    | some d => match l[j]? with
      | none => none
      | some x => match pickP k t (tkOf d) x with
        | none => none
        | some y => some (d ++ [y])
def makeQ (k : KK) (t : TN) : Int × List Plc :=
  if mayK k = true ∧ mayB t.N t.ws t.hn t.hl = true then
    (if (betweenQ k).1 = 0 then (match makeN k t (betweenQ k).2 (betweenQ k).2.length with | some d => (0, d) | none => (400, [])) else ((betweenQ k).1, []))
  else (2, [])
theorem makeN_step {k : KK} {t : TN} {l : List (Int × Int × Int)} {j : Nat} {d : List Plc} {x : Int × Int × Int} (h : makeN k t l j = some d) (hx : l[j]? = some x) : makeN k t l (j + 1) = match pickP k t (tkOf d) x with
    | none => none
    | some y => some (d ++ [y]) := by
  rw [makeN, h, hx]
theorem makeN_none {k : KK} {t : TN} {l : List (Int × Int × Int)} : ∀ {n j : Nat}, j ≤ n → makeN k t l j = none → makeN k t l n = none
  | 0, j, hj, h => by obtain rfl : j = 0 := by omega
                      exact h
  | n + 1, j, hj, h => by
    rcases Nat.lt_or_eq_of_le hj with hlt | rfl
    · rw [makeN, makeN_none (by omega) h]
    · exact h
theorem makeN_len {k : KK} {t : TN} {l : List (Int × Int × Int)} : ∀ {n : Nat} {d : List Plc}, makeN k t l n = some d → d.length = n
  | 0, d, h => by rw [makeN] at h; cases h; rfl
  | n + 1, d, h => by
    rw [makeN] at h
    cases h1 : makeN k t l n with
    | none => rw [h1] at h; cases h
    | some a =>
      rw [h1] at h
      cases h2 : l[n]? with
      | none => rw [h2] at h; cases h
      | some x =>
        rw [h2] at h
        cases h3 : pickP k t (tkOf a) x with
        | none => simp only [h3] at h; cases h
        | some y =>
          simp only [h3] at h
          cases h
          rw [List.length_append, makeN_len h1]
          rfl
theorem tkOf_snoc (d : List Plc) (y : Plc) (p : Pt) : tkOf (d ++ [y]) p = if p = y.o then true else tkOf d p := by
  unfold tkOf
  by_cases h : p = y.o
  · simp [h]
  · simp [h]
/-- A channel's ends are branches, or the host. -/
def okTrip (nb : Nat) (x : Int × Int × Int) : Prop := (x.2.1 = -1 ∧ 0 ≤ x.2.2 ∧ x.2.2 < nb) ∨ (x.2.2 = -1 ∧ 0 ≤ x.2.1 ∧ x.2.1 < nb) ∨ (0 ≤ x.2.1 ∧ x.2.1 < nb ∧ 0 ≤ x.2.2 ∧ x.2.2 < nb)
theorem rowC_ok {bs : List KP} {o : Option Nat} {o' : Option Nat} {c nb : Nat} (h : ∀ i, o = some i → i < nb) (h' : ∀ i, o' = some i → i < nb) : ∀ x ∈ rowC o o' c, okTrip nb x := by
  intro x hx
  unfold rowC at hx
  split at hx
  · cases o' with
    | none => cases hx
    | some i =>
      obtain rfl := List.mem_singleton.1 hx
      have := h' i rfl
      exact .inl ⟨rfl, by simp, by simp; omega⟩
  · split at hx
    · cases o with
      | none => cases hx
      | some i =>
        obtain rfl := List.mem_singleton.1 hx
        have := h i rfl
        exact .inr (.inl ⟨rfl, by simp, by simp; omega⟩)
    · cases o with
      | none => cases hx
      | some i =>
        cases o' with
        | none => cases hx
        | some j =>
          simp only at hx
          split at hx
          · obtain rfl := List.mem_singleton.1 hx
            have h1 := h i rfl
            have h2 := h' j rfl
            exact .inr (.inr ⟨by simp, by simp; omega, by simp, by simp; omega⟩)
          · cases hx
theorem head_lt {x : Int × Bool} {bs : List KP} {i : Nat} (h : (usersL x 0 bs).head? = some i) : i < bs.length := by
  have hm : i ∈ usersL x 0 bs := by
    cases hl : usersL x 0 bs with
    | nil => rw [hl] at h; cases h
    | cons a b => rw [hl] at h; injection h with h; subst h; simp
  obtain ⟨-, p, hp, -⟩ := usersL_mem.1 hm
  have := (List.getElem?_eq_some_iff.1 hp).1
  omega
theorem betweenN_ok {bs : List KP} : ∀ {n : Nat} {l : List (Int × Int × Int)}, betweenN bs n = some l → ∀ x ∈ l, okTrip bs.length x
  | 0, l, h => by rw [betweenN] at h; cases h; simp
  | n + 1, l, h => by
    rw [betweenN] at h
    cases h1 : betweenN bs n with
    | none => rw [h1] at h; cases h
    | some a =>
      rw [h1] at h
      cases h2 : betweenC bs n with
      | none => rw [h2] at h; cases h
      | some b =>
        rw [h2] at h
        cases h
        intro x hx
        rcases List.mem_append.1 hx with hx | hx
        · exact betweenN_ok h1 x hx
        · by_cases hc1 : 2 ≤ (usersL ((n : Int), true) 0 bs).length
          · rw [betweenC_clash hc1] at h2; cases h2
          · by_cases hc2 : 2 ≤ (usersL ((n : Int), false) 0 bs).length
            · rw [betweenC_clash hc2] at h2; cases h2
            · rw [betweenC_un (by omega) (by omega)] at h2
              cases h2
              exact rowC_ok (bs := bs) (fun i hi => head_lt hi) (fun i hi => head_lt hi) x hx
theorem isBr_of {k : KK} (h : MayF k) {b : Int} (h0 : 0 ≤ b) (h1 : b < (branchesK k).length) : isBr k b := by
  refine ⟨h0, ?_⟩
  rcases h.pr with hp | ⟨-, hp⟩
  · exact .inl hp
  · by_cases h2 : k.procs.length = 0
    · exact .inl h2
    · refine .inr ?_
      unfold branchesK at h1
      rw [if_neg h2, hp] at h1
      exact h1
theorem betweenQ_ok {k : KK} (h : mayK k = true) (h0 : (betweenQ k).1 = 0) : (∀ x ∈ (betweenQ k).2, okTrip (branchesK k).length x) ∧ (betweenQ k).2.length ≤ 64 := by
  unfold betweenQ at h0 ⊢
  rw [if_pos h] at h0 ⊢
  cases hb : betweenK k with
  | none => rw [hb] at h0; cases h0
  | some l =>
    have := betweenN_len hb
    have h2 := (mayF h).c64
    exact ⟨betweenN_ok hb, by simp only; omega⟩
theorem host_ok {t : TN} (h : mayB t.N t.ws t.hn t.hl = true) : (0 ≤ t.hn ∧ t.hn < 8) ∧ 0 ≤ t.hl ∧ t.hl < 4 := by
  unfold mayB at h
  simp only [Bool.and_eq_true, decide_eq_true_eq] at h
  have h8 := h.1.1.1.1.2
  have hp := portsOk_at h.1.1.2 (t.hn, t.hl) (by simp)
  simp only [existsB, decide_eq_true_eq] at hp
  omega
/-- Nodes are small numbers. -/
theorem node_ok {k : KK} {t : TN} (h : mayK k = true) (ht : mayB t.N t.ws t.hn t.hl = true) {b : Nat} (hb : k.procs.length = 0 ∨ b < k.procs.length) : 0 ≤ nodeI k t b ∧ nodeI k t b < 8 := by
  have hh := (host_ok ht).1
  unfold nodeI
  by_cases h0 : k.procs.length = 0
  · rw [if_pos h0]; exact hh
  · rw [if_neg h0]
    have hlt := hb.resolve_left h0
    have hx := List.getElem?_eq_getElem (l := k.procs) (i := b) hlt
    rw [hx]
    unfold mayK at h
    simp only [Bool.and_eq_true] at h
    have h4 := h.1.1.1.2
    unfold placedB at h4
    rw [decide_eq_false h0, Bool.false_or] at h4
    simp only [Bool.and_eq_true, List.all_eq_true, decide_eq_true_eq] at h4
    exact h4.1.1.2 _ (List.getElem_mem hlt)
theorem host_key {k : KK} {t : TN} {x : Int × Int × Int} {hp : Plc} {b : Bool} (h : hostQ k t x = (hp, true, b)) (ht : mayB t.N t.ws t.hn t.hl = true) : okPt hp.o := by
  obtain ⟨⟨h1, h2⟩, h3, h4⟩ := host_ok ht
  unfold hostQ at h
  split at h
  · injection h with h _
    subst h
    exact ⟨by unfold i64ok; simp, by unfold i64ok; simp⟩
  · split at h
    · injection h with h _
      subst h
      exact ⟨by unfold i64ok; simp only; omega, by unfold i64ok; simp only; omega⟩
    · injection h with _ h
      injection h with h _
      cases h
theorem host_inner {k : KK} {t : TN} {x : Int × Int × Int} {hp : Plc} {b : Bool} (h : hostQ k t x = (hp, false, b)) : 0 ≤ x.2.1 ∧ 0 ≤ x.2.2 ∧ hp = plcZ := by
  unfold hostQ at h
  split at h
  · injection h with _ h
    injection h with h _
    cases h
  · split at h
    · injection h with _ h
      injection h with h _
      cases h
    · injection h with h _
      exact ⟨by omega, by omega, h.symm⟩
theorem freeN_key {t : TN} {tk : Pt → Bool} {fr dn : Int} : ∀ {n : Nat} {p q : Pt}, n ≤ 4 → freeN t tk fr dn n = some (p, q) → p.1 = fr ∧ 0 ≤ p.2 ∧ p.2 < 4
  | 0, p, q, _, h => by rw [freeN] at h; cases h
  | n + 1, p, q, hn, h => by
    rw [freeN] at h
    split at h
    · split at h
      · injection h with h
        injection h with h _
        subst h
        exact ⟨rfl, by simp only; omega, by simp only; omega⟩
      · exact freeN_key (by omega) h
    · exact freeN_key (by omega) h
end Go.Proofs.Ytekamebpjjkifaa

/- Lists of channels compared: same of the laws, walked; the size of a process: some number. -/
namespace Go.Proofs.Ytekamebpjjkifaa
open Go.RowKit
set_option linter.unusedSimpArgs false
set_option linter.unusedVariables false

def tripEq (x y : Int × Int × Int) : Bool := decide (x.1 = y.1 ∧ x.2.1 = y.2.1 ∧ x.2.2 = y.2.2)
theorem tripEq_true {x y : Int × Int × Int} (h : x = y) : tripEq x y = true := by subst h; simp [tripEq]
theorem tripEq_false {x y : Int × Int × Int} (h : x ≠ y) : tripEq x y = false := by
  unfold tripEq
  refine decide_eq_false fun ⟨h1, h2, h3⟩ => h ?_
  obtain ⟨a, b, c⟩ := x
  obtain ⟨a', b', c'⟩ := y
  simp at h1 h2 h3
  subst h1 h2 h3
  rfl
set_option maxRecDepth 100000 in
theorem trip_eqIn (w : World) (n : Nat) (a b c a' b' c' : Int) : (Op.equalIn (n + 2) 57 (.agg #[.int .i64 a, .int .i64 b, .int .i64 c]) (.agg #[.int .i64 a', .int .i64 b', .int .i64 c'])).run Try.prog w = .ok (tripEq (a, b, c) (a', b', c')) w := by
  obtain ⟨i, hi⟩ : ∃ i, Try.prog.info? 3 = some i := by
    cases h : Try.prog.info? 3 with
    | some i => exact ⟨i, rfl⟩
    | none => have := int_size; simp [Program.cellsOf, h] at this
  rw [run_equalIn_array w (n + 1) _ _ Try.underlying57 hi, int_size]
  have u3 := Try.underlying3
  have hr : List.range 3 = [0, 1, 2] := rfl
  rw [hr]
  by_cases h1 : a = a' <;> by_cases h2 : b = b' <;> by_cases h3 : c = c' <;> simp [Op.eqItems, part, run_equalIn_int _ _ _ _ _ _ _ u3, tripEq, h1, h2, h3]
@[go_sem ↓] theorem trip_neq (w : World) (a b c a' b' c' : Int) : (binOp .neq 57 (.agg #[.int .i64 a, .int .i64 b, .int .i64 c]) (.agg #[.int .i64 a', .int .i64 b', .int .i64 c'])).run Try.prog w = .ok (.bool (!tripEq (a, b, c) (a', b', c'))) w := by
  simp only [binOp]
  simp [Op.equal, Op.maxDepth, trip_eqIn w 9998]
@[go_sem ↓] theorem trip_eql (w : World) (a b c a' b' c' : Int) : (binOp .eql 57 (.agg #[.int .i64 a, .int .i64 b, .int .i64 c]) (.agg #[.int .i64 a', .int .i64 b', .int .i64 c'])).run Try.prog w = .ok (.bool (tripEq (a, b, c) (a', b', c'))) w := by
  simp only [binOp]
  simp [Op.equal, Op.maxDepth, trip_eqIn w 9998]
@[go_sem ↓] theorem trip_guard (w : World) (op : BinOp) (x y : Operand) (xs ys : Array Value) : (eqGuard op 57 x y (.agg xs) (.agg ys)).run Try.prog w = .ok () w :=
  run_eqGuard_agg w op 57 x y xs ys (by kernel_rfl)
theorem trip_len (x : Int × Int × Int) : ([Value.int .i64 x.1, .int .i64 x.2.1, .int .i64 x.2.2] : List Value).length = 3 := rfl
theorem trips_at {w : World} {B n : Nat} {A : Option Addr} {l : List (Int × Int × Int)} (h : Reads w B 3 A n (tripC l)) (hn : l.length = n) {k : Nat} (hk : k < n) :
    ∃ b off x, A = some ⟨b, off, none⟩ ∧ b < B ∧ l[k]? = some x ∧ w.cell? ⟨b, off + k * 3, none⟩ = some (.int .i64 x.1) ∧ w.cell? ⟨b, off + k * 3 + 1, none⟩ = some (.int .i64 x.2.1) ∧ w.cell? ⟨b, off + k * 3 + 2, none⟩ = some (.int .i64 x.2.2) := by
  subst hn
  obtain ⟨b, off, x, h1, h2, h3, h4, hc⟩ := row_at (f := fun x : Int × Int × Int => [Value.int .i64 x.1, .int .i64 x.2.1, .int .i64 x.2.2]) trip_len (by decide) h hk
  exact ⟨b, off, x, h1, h2, h3, hc 0 _ rfl, hc 1 _ rfl, hc 2 _ rfl⟩
theorem take_eq_snoc {α : Type} {l l' : List α} {k : Nat} {x y : α} (h : l.take k = l'.take k) (hx : l[k]? = some x) (hy : l'[k]? = some y) (he : x = y) : l.take (k + 1) = l'.take (k + 1) := by
  rw [List.take_add_one, List.take_add_one, h, hx, hy, he]
theorem ne_of_get {α : Type} {l l' : List α} {k : Nat} {x y : α} (hx : l[k]? = some x) (hy : l'[k]? = some y) (he : x ≠ y) : l ≠ l' := by
  rintro rfl
  rw [hx] at hy
  exact he (by injection hy)
set_option maxRecDepth 100000 in
set_option maxHeartbeats 4000000 in
theorem lSame40 (l l' : List (Int × Int × Int)) (A A' : Option Addr) (c c' B B' : Nat) (w : World) (hl : l.length ≤ 140737488355328) (h : Reads w B 3 A l.length (tripC l)) (h' : Reads w B' 3 A' l'.length (tripC l')) :
    Calls Try.prog 10 #[.slice A l.length c, .slice A' l'.length c'] w (RetV (.bool (decide (l = l'))) w) := by
  have HL := Lib.hid h
  have HL' := Lib.hid h'
  obtain ⟨n, hn⟩ : ∃ q, l.length = q := ⟨_, rfl⟩
  obtain ⟨n', hn'⟩ : ∃ q, l'.length = q := ⟨_, rfl⟩
  have HN := Lib.hid hn
  have HN' := Lib.hid hn'
  have HEQ : Hid (∀ R : Bool, (l = l' ↔ R = true) → decide (l = l') = R) := Lib.hid fun R h => by rw [Bool.eq_iff_iff, ← h, decide_eq_true_eq]
  generalize decide (l = l') = R at *
  rw [hn] at HL hl ⊢
  rw [hn'] at HL' ⊢
  clear h h' hn hn'
  by_cases hne : n = n'
  · subst hne
    have y : ((n : Int) != (n : Int)) = false := by simp
    go_enter Try.func10, Try.ntmps10
    go_wp2_with fail
    go_loopw [5] (fun i W => ∃ j q : Nat, j ≤ n ∧ i = .int .i64 j ∧ Hid (l.take j = l'.take j) ∧ W = w.drewN q) (fun i _ => n - (intOf i).toNat)
    case atStart => exact ⟨0, 0, Nat.zero_le _, rfl, Lib.hid rfl, rfl⟩
    case round =>
      obtain ⟨j, q, hj, rfl, HT, rfl⟩ := hrel
      by_cases hlt : j < n
      · have hltI : (j : Int) < n := by omega
        obtain ⟨b, off, x, hA, hb, hx, c0, c1, c2⟩ := trips_at HL.out HN.out hlt
        obtain ⟨b', off', x', hA', hb', hx', c0', c1', c2'⟩ := trips_at HL'.out HN'.out hlt
        subst hA hA'
        by_cases he : x = x'
        · have HT2 := Lib.hid (take_eq_snoc HT.out hx hx' he)
          have yt : tripEq (x.1, x.2.1, x.2.2) (x'.1, x'.2.1, x'.2.2) = true := tripEq_true he
          clear hx hx' he
          go_upto_region 6 with fail
          go_quiet (fail)
          go_wp2
          go_roundw
          case rel => exact ⟨j + 1, _, by omega, by go_num, HT2, rfl⟩
          case measure => simp [intOf]; omega
        · have HNE := Lib.hid (HEQ.out false ⟨fun h => absurd h (ne_of_get hx hx' he), fun h => by cases h⟩)
          have yt : tripEq (x.1, x.2.1, x.2.2) (x'.1, x'.2.1, x'.2.2) = false := tripEq_false he
          clear hx hx' he
          go_upto_region 6 with fail
          go_quiet (fail)
          go_wp2
          go_ret
          exact ⟨by refine ret_bool rfl ?_; rw [HNE.out], by first | exact below_drewN (Below.refl _ _) _ | exact below_drewN (below_drewN (Below.refl _ _) _) _⟩
      · have hltI : ¬ (j : Int) < n := by omega
        obtain rfl : n = j := by omega
        have hst := HT.out
        rw [List.take_of_length_le (by rw [HN.out]; omega), List.take_of_length_le (by rw [HN'.out]; omega)] at hst
        have HX := Lib.hid (HEQ.out true ⟨fun _ => rfl, fun _ => hst⟩)
        clear hst
        go_wp2
        go_ret
        exact ⟨by refine ret_bool rfl ?_; rw [HX.out], below_drewN (Below.refl _ _) _⟩
  · have y : ((n : Int) != (n' : Int)) = true := by simp; omega
    have HX := Lib.hid (HEQ.out false ⟨fun h => absurd (by rw [← HN.out, ← HN'.out, h]) hne, fun h => by cases h⟩)
    clear hne
    go_enter Try.func10, Try.ntmps10
    go_wp2
    go_ret
    exact ⟨by refine ret_bool rfl ?_; rw [HX.out], Below.refl _ _⟩
end Go.Proofs.Ytekamebpjjkifaa

/- The branches of an end of a channel, in the document: ends, walked. -/
namespace Go.Proofs.Ytekamebpjjkifaa
open Go.RowKit
set_option linter.unusedSimpArgs false
set_option linter.unusedVariables false

def natsC (l : List Nat) : List Value := l.map fun (i : Nat) => Value.int .i64 (i : Int)
theorem int_info0 : (Try.prog.info? 3).map (fun i => (i.zero, i.size, i.bytes)) = some (some (.int .i64 0), 1, 8) := by kernel_rfl
/-- A list of numbers answered. -/
def RetInts (l : List Nat) (w : World) (e : Ending) (w' : World) : Prop :=
  Below w.heap.size w w' ∧ ∃ (A : Option Addr) (c : Nat), e = .returned (.slice A l.length c) ∧ Reads w' w'.heap.size 1 A l.length (natsC l) ∧ ∀ g, (Value.slice A l.length c).ownBlock = some g → w.heap.size ≤ g
/-- The state of ends. -/
structure EnS (w wb W : World) (bs : List KP) (A : Option Addr) (v : Value) (l : List Nat) : Prop where
  bel : Below w.heap.size w W
  blb : Below wb.heap.size wb W
  br : Reads W wb.heap.size 8 A bs.length (kpsC bs)
  own : W.ownsRow wb.heap.size 3 1 v l.length (natsC l)
theorem EnS.call {w wb W W1 : World} {bs : List KP} {A : Option Addr} {v : Value} {l : List Nat} (h : EnS w wb W bs A v l) (hb : Below W.heap.size W W1) : EnS w wb W1 bs A v l :=
  ⟨h.bel.trans (hb.mono h.bel.size), h.blb.trans (hb.mono h.blb.size), h.br.below (hb.mono h.blb.size), h.own.below hb⟩
theorem usersL_len (x : Int × Bool) : ∀ (l : List KP) (i : Nat), (usersL x i l).length ≤ l.length
  | [], i => by simp [usersL]
  | p :: l, i => by
    rw [usersL, List.length_append, List.length_cons]
    have := usersL_len x l (i + 1)
    have h : (if x ∈ endsP p then [i] else []).length ≤ 1 := by split <;> simp
    omega
set_option maxRecDepth 100000 in
set_option maxHeartbeats 8000000 in
theorem rEnds (k : KK) (hF : MayF k) (c : Int) (out : Bool) (B : Nat) (w : World) (hk : k.In w B) (hB : B ≤ w.heap.size) :
    Calls Try.prog 23 #[.agg k.flat, .int .i64 c, .bool out] w (RetInts (usersL (c, out) 0 (branchesK k)) w) := by
  have hbl := hF.nbs
  have HBI : Hid (∀ w1 : World, Below w.heap.size w w1 → ∀ p ∈ branchesK k, p.In w1 B ∧ B ≤ w1.heap.size) := Lib.hid fun w1 hb p hp => ⟨(branch_in hk p hp).below (hb.mono hB), Nat.le_trans hB hb.size⟩
  have HU : Hid (∀ p ∈ branchesK k, UsesOk p) := Lib.hid fun p hp => rUses p (bodies_of (hF.branch p hp))
  have HBC : Hid (∀ w1 : World, Below w.heap.size w w1 → Calls Try.prog 38 #[.agg k.flat] w1 (RetBr k w1)) := Lib.hid fun w1 hb => rBranches k B w1 (hk.below (hb.mono hB)) (Nat.le_trans hB hb.size)
  obtain ⟨W0, hW0⟩ : ∃ W0, w.alloc (.cells k.flat 34) = W0 := ⟨_, rfl⟩
  obtain ⟨l1, l2⟩ := lay1 w k.flat 34
  rw [hW0] at l1 l2
  have K0 := Lib.hid l1
  simp only [KK.flat] at l2 hW0 HBC ⊢
  have e0 := l2.cell 0
  have e1 := l2.cell 1
  have e2 := l2.cell 2
  have e3 := l2.cell 3
  have e4 := l2.cell 4
  have e5 := l2.cell 5
  have e6 := l2.cell 6
  have e7 := l2.cell 7
  have e8 := l2.cell 8
  have e9 := l2.cell 9
  have e10 := l2.cell 10
  simp at e0 e1 e2 e3 e4 e5 e6 e7 e8 e9 e10
  clear l1 l2 hk hF
  go_enter Try.func23, Try.ntmps23
  go_upto_region 3 with (first
    | (go_at_call 38; (with_reducible refine (HBC.out _ K0.out).mono ?_); rintro e1 wb ⟨hb3, A, c9, rfl, hrd3⟩))
  have S : Hid (EnS w wb wb (branchesK k) A (.slice none 0 0) (usersL (c, out) 0 ((branchesK k).take 0))) := Lib.hid ⟨K0.out.trans (hb3.mono K0.out.size), Below.refl _ _, hrd3, by rw [List.take_zero, usersL]; exact World.ownsRow_nil _ _ _ _⟩
  have HWZ := Lib.hid (Nat.le_trans K0.out.size hb3.size)
  clear hb3 hrd3 HBC e0 e1 e2 e3 e4 e5 e6 e7 e8 e9 e10 hW0
  obtain ⟨bs, hbs⟩ : ∃ q, branchesK k = q := ⟨_, rfl⟩
  rw [hbs] at S HBI HU hbl ⊢
  obtain ⟨nb, hnb⟩ : ∃ q, bs.length = q := ⟨_, rfl⟩
  have HNB := Lib.hid hnb
  rw [hnb] at hbl ⊢
  have HBS := Lib.hid hbs
  clear hbs hnb
  obtain ⟨i0, hi0, hz0, hz1, hz2⟩ := info_parts int_info0
  go_wp2_with fail
  go_loopw [9, 7] (fun i v W => ∃ j : Nat, j ≤ nb ∧ i = .int .i64 j ∧ Hid (EnS w wb W bs A v (usersL (c, out) 0 (bs.take j)))) (fun i _ _ => nb - (intOf i).toNat)
  case atStart => exact ⟨0, Nat.zero_le _, rfl, S⟩
  case round =>
    clear S
    obtain ⟨j, hj, rfl, S⟩ := hrel
    by_cases hlt : j < nb
    · have hltI : (j : Int) < nb := by omega
      obtain ⟨b, off, x, hA, hb, hx, hmx, c0, c1, c2, c3, c4, c5, c6, c7⟩ := kps_at S.out.br rfl (k := j) (by rw [HNB.out]; exact hlt)
      have hbw : b < wr.heap.size := Nat.lt_of_lt_of_le hb S.out.blb.size
      subst hA
      have hin := HBI.out wr S.out.bel x hmx
      have HC := Lib.hid (HU.out x hmx c out B wr hin.1 hin.2)
      have HSN := Lib.hid (usersL_snoc (x := (c, out)) hx)
      simp only [KP.cells] at HC
      clear hx hmx hin
      by_cases hxe : (c, out) ∈ endsP x
      · have hd : decide ((c, out) ∈ endsP x) = true := decide_eq_true hxe
        rw [hd] at HC
        rw [if_pos hxe] at HSN
        have hln := usersL_len (c, out) (bs.take j) 0
        rw [List.length_take] at hln
        have hll : (usersL (c, out) 0 (bs.take j)).length ≤ j := by omega
        clear hxe hd hln
        go_upto_region 7 with (first
          | (go_at_call 39; (with_reducible refine HC.out.mono ?_); rintro e1 w3 ⟨rfl, hb3⟩))
        have S3 := Lib.hid (S.out.call hb3)
        have OW := Lib.hid (S3.out.own.alloc (.cells #[.int .i64 (j : Int)] 3))
        have bN := Blk.new w3 3 #[.int .i64 (j : Int)]
        have hzz := S3.out.blb.size
        clear S hb3 HC c0 c1 c2 c3 c4 c5 c6 c7
        go_wp2_with (at_builtin; refine app_own Try.underlying32 hi0 hz0 hz1 hz2 rfl (by decide) OW.out (by simp; omega) rfl (.tmp 25) (.tmp 27) rfl rfl w3.heap.size 1 1 #[.int .i64 (j : Int)] rfl bN rfl (by simp [Value.oneCell']) (by omega) (by omega) ?_; intro v' w' hown hg hb4 hat)
        have S4 : Hid (EnS w wb w' bs (some ⟨b, off, none⟩) v' (usersL (c, out) 0 (bs.take (j + 1)))) := Lib.hid (by
          have hb5 : Below wb.heap.size w3 w' := ((Below.refl wb.heap.size w3).alloc hzz _).trans hb4
          have hbz := S3.out.blb.size
          refine ⟨?_, S3.out.blb.trans hb5, S3.out.br.below hb5, ?_⟩
          · exact S3.out.bel.trans (hb5.mono HWZ.out)
          · rw [HSN.out, List.length_append]
            have : natsC (usersL (c, out) 0 (bs.take j) ++ [j]) = natsC (usersL (c, out) 0 (bs.take j)) ++ (#[.int .i64 (j : Int)] : Array Value).toList := by simp [natsC]
            rw [this]
            exact hown)
        clear hown hg hb4 hat bN OW S3
        go_roundw
        case rel => exact ⟨j + 1, by omega, by go_num, S4⟩
        case measure => simp [intOf]; omega
      · have hd : decide ((c, out) ∈ endsP x) = false := decide_eq_false hxe
        rw [hd] at HC
        rw [if_neg hxe, List.append_nil] at HSN
        clear hxe hd
        go_wp2_with (first
          | (go_at_call 39; (with_reducible refine HC.out.mono ?_); rintro e1 w3 ⟨rfl, hb3⟩))
        have S4 : Hid (EnS w wb w3 bs (some ⟨b, off, none⟩) u7 (usersL (c, out) 0 (bs.take (j + 1)))) := Lib.hid (by rw [HSN.out]; exact S.out.call hb3)
        clear hb3
        go_roundw
        case rel => exact ⟨j + 1, by omega, by go_num, S4⟩
        case measure => simp [intOf]; omega
    · have hltI : ¬ (j : Int) < nb := by omega
      obtain rfl : nb = j := by omega
      have htk : bs.take nb = bs := List.take_of_length_le (by rw [HNB.out]; omega)
      have hst := S.out
      rw [htk] at hst
      have HS := Lib.hid hst
      obtain ⟨A7, c7, hv7⟩ := own_slice hst.own
      subst hv7
      clear htk hst S
      go_wp2
      go_ret
      refine ⟨HS.out.bel, A7, c7, ?_, ?_, ?_⟩
      · rw [HBS.out]; rfl
      · rw [HBS.out]; exact Reads.of_own HS.out.own
      · rw [HBS.out]; exact fun g hg => Nat.le_trans HWZ.out (HS.out.own.lt g hg).1
end Go.Proofs.Ytekamebpjjkifaa

/- A region that draws its order, whose operations but the last few (in one forced order) only read: the head by the cheap quiet step, then the tail. -/
namespace Go.Proofs.Ytekamebpjjkifaa
open Go.RowKit
set_option linter.unusedVariables false
set_option linter.unusedSimpArgs false

theorem still_of_quiet {P : Program} {o : Oper} {a : Act} {w : World} {K : Act → Prop} (h : o.quiet P a (fun w' => w' = w) K) : o.still P a w K := by
  obtain ⟨v, h1, h2⟩ := h
  have h3 := h1 w rfl
  unfold Oper.quietAt at h3
  unfold Oper.still
  generalize (execOp a.eval o).run P w = r at *
  cases r with
  | ok n w' =>
    cases n <;> simp only [Oper.quietUpon] at h3 <;> simp only [Oper.stillUpon]
    case value u => obtain ⟨e1, e2⟩ := h3; subst e2; exact ⟨e1, h2⟩
    case skip => obtain ⟨e1, e2⟩ := h3; subst e2; exact ⟨e1, h2⟩
    case enter f args =>
      obtain ⟨e1, hc⟩ := h3
      subst e1
      exact ⟨rfl, v, hc, h2⟩
  | halt x w' => simp only [Oper.quietUpon] at h3
theorem wpStill_of_quiet {P : Program} {ops : Array Oper} {w : World} {Q : Act → Prop} : ∀ (l : List Oper) (a : Act), wpQuiet P ops (fun w' => w' = w) Q l a → wpStill P ops w Q l a
  | [], _, h => h
  | o :: l, a, h => by
    simp only [wpQuiet, wpStill] at h ⊢
    split
    · rename_i hw
      rw [if_pos hw] at h
      refine still_of_quiet ?_
      obtain ⟨v, h1, h2⟩ := h
      exact ⟨v, h1, wpStill_of_quiet l _ h2⟩
    · rename_i hw
      rw [if_neg hw] at h
      exact wpStill_of_quiet l _ h
theorem wp_region_quiet_tail {P : Program} {id : Nat} {Q : Exit → Act → World → Prop} {a : Act} {w : World} {l : List Oper} (n : Nat) (hm : P.follows .mixedOrders = true) (hB : Region.lexTailB .any l.toArray n = true)
    (h : wpQuiet P l.toArray (fun w' => w' = w.drew) (fun a' => wpList P l.toArray Q (l.drop n) a' w.drew) (l.take n) a) : (Code.region id l.toArray true).wp P Q a w :=
  wp_region_still_tail n hm hB (wpStill_of_quiet _ _ h)
end Go.Proofs.Ytekamebpjjkifaa
