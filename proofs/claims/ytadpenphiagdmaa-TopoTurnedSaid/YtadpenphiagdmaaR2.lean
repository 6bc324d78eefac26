/- The program's iterator over the nodes in the order of the tree. -/
import Derived.Test.YtadpenphiagdmaaR1
import Derived.Shelf.Abstract
import Derived.Sort.LoopGhostIn
namespace Go.Proofs.Ytadpenphiagdmaa
open Go.RowKit
set_option linter.unusedVariables false
set_option linter.unusedSimpArgs false

def gbox (w : World) (gb g r : Nat) (N hn hl : Int) (A : Option Addr) (m c : Nat) (ws : List Wire) : Prop :=
  Blk w gb 56 #[.pointer (some ⟨g, 0, none⟩)] ∧ Blk w g 63 #[.int .i64 N, .slice A m c, .int .i64 hn, .int .i64 hl, .map (some r)] ∧ MapIs w r (pairs ws)
theorem gbox.below {w w' : World} {gb g r m c : Nat} {N hn hl : Int} {A : Option Addr} {ws : List Wire} (h : gbox w gb g r N hn hl A m c ws) (k : Below w.heap.size w w') : gbox w' gb g r N hn hl A m c ws :=
  ⟨h.1.call k, h.2.1.call k, h.2.2.call k⟩
theorem gbox.keepX {X : Nat → Prop} {w w' : World} {gb g r m c : Nat} {N hn hl : Int} {A : Option Addr} {ws : List Wire} (h : gbox w gb g r N hn hl A m c ws) (k : KeepX X w w') (h1 : ¬ X gb) (h2 : ¬ X g) (h3 : ¬ X r) : gbox w' gb g r N hn hl A m c ws :=
  ⟨k.block _ _ h1 h.1 rfl, k.block _ _ h2 h.2.1 rfl, k.block _ _ h3 h.2.2 rfl⟩
theorem gbox.under {B : Nat} {w w' : World} {gb g r m c : Nat} {N hn hl : Int} {A : Option Addr} {ws : List Wire} (h : gbox w gb g r N hn hl A m c ws) (k : Below B w w') (h1 : gb < B) (h2 : g < B) (h3 : r < B) : gbox w' gb g r N hn hl A m c ws :=
  ⟨h.1.below k h1, h.2.1.below k h2, h.2.2.below k h3⟩
/-- Which nodes are found. -/
def flags (l : List Pt) : Array Value := ((List.range 8).map fun k : Nat => Value.bool (l.any fun p => p.1 == (k : Int))).toArray

theorem flags_get (l : List Pt) (j : Nat) (hj : j < 8) : (flags l)[j]? = some (.bool (l.any fun p => p.1 == (j : Int))) := by
  simp [flags, hj]
theorem flags_size (l : List Pt) : (flags l).size = 8 := by simp [flags]
theorem flags_snoc (l : List Pt) (q : Pt) (h0 : 0 ≤ q.1) (h8 : q.1 < 8) : (flags l).setIfInBounds q.1.toNat (.bool true) = flags (l ++ [q]) := by
  refine Array.ext_getElem? fun j => ?_
  rw [Array.getElem?_setIfInBounds]
  rcases Nat.lt_or_ge j 8 with hj | hj
  · rw [flags_get _ _ hj, flags_size]
    split
    · rename_i he
      rw [if_pos (by omega), flags_get _ _ hj]
      subst he
      congr 2
      have : (q.1 == ((q.1.toNat : Nat) : Int)) = true := by simp; omega
      rw [List.any_append]
      simp only [List.any_cons, List.any_nil, this, Bool.or_false, Bool.or_true]
    · rename_i he
      rw [flags_get _ _ hj]
      congr 2
      have : (q.1 == (j : Int)) = false := by simp; omega
      rw [List.any_append]
      simp only [List.any_cons, List.any_nil, this, Bool.or_false]
  · have e1 : (flags l)[j]? = none := Array.getElem?_eq_none (by rw [flags_size]; exact hj)
    have e2 : (flags (l ++ [q]))[j]? = none := Array.getElem?_eq_none (by rw [flags_size]; exact hj)
    rw [e1, e2, flags_size]
    split
    · rw [if_neg (by omega)]
    · rfl
theorem fresh_any (q : Pt) (l : List Pt) : fresh (some q) l = !(l.any fun p => p.1 == q.1) := by
  simp only [fresh]
  induction l with
  | nil => rfl
  | cons p r ih => simp only [List.all_cons, List.any_cons, ih, Bool.not_or]; cases h : p.1 == q.1 <;> simp_all
theorem ordL_ext {ws : List Wire} : ∀ (f : Nat) (l : List Pt) (i : Nat), ∃ r, ordL ws f l i = l ++ r
  | 0, l, _ => ⟨[], by simp [ordL]⟩
  | f + 1, l, i => by
    simp only [ordL]
    split
    · rename_i p _
      obtain ⟨r, hr⟩ := ordL_ext f (ordNode ws p.1 l) (i + 1)
      obtain ⟨a, ha⟩ := ordStep_ext ws p.1 l 0
      obtain ⟨b, hb⟩ := ordStep_ext ws p.1 (l ++ a) 1
      obtain ⟨c, hc⟩ := ordStep_ext ws p.1 (l ++ a ++ b) 2
      obtain ⟨d, hd⟩ := ordStep_ext ws p.1 (l ++ a ++ b ++ c) 3
      have e : ordNode ws p.1 l = l ++ a ++ b ++ c ++ d := by
        show ordStep ws p.1 (ordStep ws p.1 (ordStep ws p.1 (ordStep ws p.1 l 0) 1) 2) 3 = _
        rw [ha, hb, hc, hd]
      exact ⟨a ++ b ++ c ++ d ++ r, by rw [hr, e]; simp only [List.append_assoc]⟩
    · exact ⟨[], by simp⟩
theorem ownsOff.keepX {X : Nat → Prop} {w w' : World} {B e size n : Nat} {v : Value} {xs : List Value} (h : ownsOff w B e size v n xs) (k : KeepX X w w') (hX : ∀ i, X i → i < B) : ownsOff w' B e size v n xs := by
  obtain ⟨g, hg, hB, _⟩ := h.lt
  exact h.keep fun g' cur t hg' hh => k.block _ _ (fun hx => by rw [hg] at hg'; injection hg' with e; have := hX _ hx; omega) hh rfl
theorem take_succ_eq {l : List Pt} {i : Nat} {x : Pt} (h : l[i]? = some x) : l.take (i + 1) = l.take i ++ [x] := by
  rw [List.take_add_one, h]; rfl
theorem ownsOff.farSet {w : World} {B e size n : Nat} {v : Value} {xs : List Value} (h : ownsOff w B e size v n xs) {p : Addr} (hp : p.block < B) (u : Value) : ownsOff (w.setCell p u) B e size v n xs := by
  obtain ⟨g, hg, hB, _⟩ := h.lt
  refine h.keep fun g' cur t hg' hh => (Below.heap_setCell w p u g' ?_).trans hh
  rw [hg] at hg'; injection hg' with e; omega
theorem app_run {P : Program} {w : World} {ops : Array Oper} {rest : List Oper} {o : Oper} {a : Act} {Q : Exit → Act → World → Prop} {v' : Value} {w' : World} (hgd : o.guard = none) (s x : Operand) (t : TypeId)
    (ho : o.op = .call { callee := .builtin .append, args := #[s, x], argTypes := #[t, t] }) (v u : Value) (hs : a.eval s = v) (hx : a.eval x = u)
    (hrun : (Builtin.append_ #[t, t] o.type #[v, u]).run P w = .ok v' w') (h : wpList P ops Q rest (a.put o.dst v') w') : wpList P ops Q (o :: rest) a w :=
  wpList_plain hgd fun K hK => by
    unfold Oper.wp execOp
    simp only [ho, resolve, invoke, builtin, Sem.run_bind, Sem.run_pure, Result.andThen_ok, List.map_toArray, List.map_cons, List.map_nil, hs, hx, hrun]
    exact hK _ _ h
theorem pcells_drop (l : List Pt) (i : Nat) : (pcells (l.drop i)).drop 2 = pcells (l.drop (i + 1)) := by
  rcases Nat.lt_or_ge i l.length with h | h
  · rw [List.drop_eq_getElem_cons h]; rfl
  · have e : l.drop (i + 1) = [] := List.drop_eq_nil_of_le (by omega)
    rw [List.drop_eq_nil_of_le h, e]; rfl

set_option maxRecDepth 100000 in
set_option maxHeartbeats 2000000 in
theorem order1 (n : Nat) (N hn hl : Int) (A : Option Addr) (m c gb g r : Nat) (ws : List Wire) (hok : NetOk N ws hn) (X : Nat → Prop) (w0 : World) (hX : ∀ k, X k → k < w0.heap.size) (h1 : ¬ X gb) (h2 : ¬ X g) (h3 : ¬ X r)
    (hg : gbox w0 gb g r N hn hl A m c ws) :
    SeqAll Fence.wide n Try.prog 39 #[.pointer (some ⟨gb, 0, none⟩)] (fun p : Pt => #[ptV p]) X (orderOf ws hn hl) w0 := by
  intro l J W hW hJ hY h0
  have hgW : gbox W gb g r N hn hl A m c ws := hg.below hW
  refine callsIn_of_wp Try.func39 rfl trivial ?_ rfl
  simp only [Try.ntmps39, List.size_toArray, List.length_cons, List.length_nil, Nat.reduceAdd, Nat.reduceSub, Array.replicate_succ, Array.replicate_zero, List.push_toArray, List.append_toArray, List.nil_append, List.cons_append]
  have cb := hgW.1.cell 0
  have cg0 := hgW.2.1.cell 0
  have cg2 := hgW.2.1.cell 2
  have cg3 := hgW.2.1.cell 3
  have cg4 := hgW.2.1.cell 4
  simp at cb cg0 cg2 cg3 cg4
  have gbL := hgW.1.lt
  have gL := hgW.2.1.lt
  have rL := hgW.2.2.lt
  have hh0 := hok.h0
  have hh1 := hok.h1
  have hh8 := hok.n8
  have hh9 : hn < 8 := by omega
  have Hok := Lib.hid hok; clear hok
  obtain ⟨i0, hi0, hz0, hz1, hz2⟩ := info_parts port_info
  gi_wp2
  have hf0 : ([Value.bool false, Value.bool false, Value.bool false, Value.bool false, Value.bool false, Value.bool false, Value.bool false, Value.bool false].set hn.toNat (Value.bool true)).toArray = flags [(hn, hl)] := by
    have h := flags_snoc [] (hn, hl) hh0 hh9
    rw [List.nil_append] at h
    have e : flags [] = [Value.bool false, Value.bool false, Value.bool false, Value.bool false, Value.bool false, Value.bool false, Value.bool false, Value.bool false].toArray := rfl
    rw [← h, e, List.setIfInBounds_toArray]
  rw [hf0]
  have Hf0 := Lib.hid hf0; clear hf0
  obtain ⟨k1, k2, k3⟩ := lay2 W (flags [(hn, hl)]) #[.int .i64 hn, .int .i64 hl] 77 24
  have hown0 := ownsOff.of_own (World.ownsRow_lit (base := W.heap.size + 1) (e := 24) (size := 2) (W.alloc (.cells (flags [(hn, hl)]) 77)) #[.int .i64 hn, .int .i64 hl] 1 (by simp) (by unfold maxLen; omega) rfl) (by omega)
  simp only [World.size_alloc] at hown0
  have hg0 := hgW.below k1
  have hJ0 := hJ _ _ _ h0 k1
  have HY := Lib.hid hY; clear hY
  have HJ := Lib.hid hJ; clear hJ
  gi_loopg [4] 9 (fun k v wr => ∃ (i : Nat) (l : List Pt), k + i = 9 ∧ i ≤ l.length ∧ ownsOff wr (W.heap.size + 1) 24 2 v (l.length - i) (pcells (l.drop i)) ∧ Blk wr W.heap.size 77 (flags l) ∧ gbox wr gb g r N hn hl A m c ws ∧ Found N l ∧ Hid (orderOf ws hn hl = ordL ws (9 - i) l i) ∧ Hid (J (l.take i) wr) ∧ W.heap.size ≤ wr.heap.size)
  case atStart => exact ⟨0, [(hn, hl)], rfl, by simp, hown0, k2, hg0, ⟨by simp, fun p hp => by simp at hp; subst hp; exact ⟨hh0, hh1⟩⟩, rfl, hJ0, k1.size⟩
  case round =>
    clear hown0 hg0 hJ0 k1 k2 k3 hgW cb cg0 cg2 cg3 cg4
    obtain ⟨i, l', hki, hil, hown, bF, hgb, hF, Hord, HJl, hWr⟩ := hrel
    have hl8 := hF.short hh8
    obtain ⟨gq, oq, cap, rfl, hq1, hq2, hq3, hq4, hqc⟩ := hown.form
    by_cases hlt : i < l'.length
    · obtain ⟨⟨x1, x2⟩, hx⟩ : ∃ x, l'[i]? = some x := ⟨_, List.getElem?_eq_getElem hlt⟩
      have ed : l'.drop i = (x1, x2) :: l'.drop (i + 1) := by
        obtain ⟨h, hx⟩ := List.getElem?_eq_some_iff.1 hx
        rw [List.drop_eq_getElem_cons h, hx]
      have c0 := hqc 0 (by omega)
      have c1 := hqc 1 (by omega)
      rw [ed] at c0 c1
      replace c0 : wr.cell? ⟨gq, oq, none⟩ = some (.int .i64 x1) := c0
      replace c1 : wr.cell? ⟨gq, oq + 1, none⟩ = some (.int .i64 x2) := c1
      obtain ⟨rr, hrr⟩ : ∃ rr, orderOf ws hn hl = l'.take i ++ (x1, x2) :: rr := by
        obtain ⟨e, he⟩ := ordL_ext (ws := ws) (9 - i) l' i
        refine ⟨l'.drop (i + 1) ++ e, ?_⟩
        rw [Hord.out, he]
        conv => lhs; rw [← List.take_append_drop i l', ed]
        simp only [List.append_assoc, List.cons_append]
      have HRR := Lib.hid hrr; clear hrr
      have HX := Lib.hid hx; clear hx
      have HED := Lib.hid ed; clear ed
      obtain ⟨fn, tmps, assign, body, hy, hR⟩ := HY.out (l'.take i) (x1, x2) rr wr HJl.out HRR.out
      unfold ptV at hy
      have hlI : (0 : Int) < ((l'.length - i : Nat) : Int) := by omega
      gi_wp2
      refine ⟨by simp [Fence.wide], hR.mono ?_⟩
      rintro e w1 ⟨rfl, hJ1, kx⟩
      have hown1 := hown.keepX kx (fun j hj => by have := hX j hj; have := hW.size; omega)
      have hXF : ¬ X W.heap.size := fun h => by have := hX _ h; have := hW.size; omega
      have bF1 : Blk w1 W.heap.size 77 (flags l') := kx.block _ _ hXF bF rfl
      have hg1 := hgb.keepX kx h1 h2 h3
      have hWr1 : W.heap.size ≤ w1.heap.size := Nat.le_trans hWr kx.size
      rw [← take_succ_eq HX.out] at hJ1
      have HJ1 := Lib.hid hJ1
      clear hJ1 hown bF hgb c0 c1 hqc hq2 kx hy hR HRR HJl
      gi_wp2
      refine wpIn_wide_of_wp ?_
      go_loopw [4, 33] (fun v kk wx => ∃ (k : Nat) (rl : List Pt), kk = .int .i64 k ∧ k ≤ 4 ∧ ownsOff wx (W.heap.size + 1) 24 2 v ((l' ++ rl).length - i) (pcells ((l' ++ rl).drop i)) ∧ Blk wx W.heap.size 77 (flags (l' ++ rl)) ∧ gbox wx gb g r N hn hl A m c ws ∧ Found N (l' ++ rl) ∧
        Hid (ordNode ws x1 l' = ordFrom ws x1 (l' ++ rl) k) ∧ Hid (J (l'.take (i + 1)) wx) ∧ W.heap.size ≤ wx.heap.size) (fun _ kk _ => 4 - (intOf kk).toNat)
      case atStart => exact ⟨0, [], rfl, by simp, by simpa using hown1, by simpa using bF1, hg1, by simpa using hF, by rw [List.append_nil]; exact (ordFrom_zero ws x1 l').symm, HJ1, hWr1⟩
      case round =>
        clear hown1 bF1 hg1 hWr1 HJ1
        obtain ⟨k, rl, rfl, hk, hown, bF, hgb, hF2, Hn, HJ1, hWr⟩ := hrel
        have hlr : (l' ++ rl).length = l'.length + rl.length := List.length_append
        have hlr8 := hF2.short hh8
        obtain ⟨gq, oq, cap, rfl, hq1, hq2, hq3, hq4, hqc⟩ := hown.form
        by_cases hk4 : k < 4
        · have hx2 : (l' ++ rl)[i]? = some (x1, x2) := by rw [List.getElem?_append_left hlt]; exact HX.out
          have ed : (l' ++ rl).drop i = (x1, x2) :: (l' ++ rl).drop (i + 1) := by
            obtain ⟨h, hx⟩ := List.getElem?_eq_some_iff.1 hx2
            rw [List.drop_eq_getElem_cons h, hx]
          have c0 := hqc 0 (by omega)
          rw [ed] at c0
          replace c0 : wr.cell? ⟨gq, oq, none⟩ = some (.int .i64 x1) := c0
          have HED2 := Lib.hid ed; clear ed hqc hx2
          have cb := hgb.1.cell 0
          have cg0 := hgb.2.1.cell 0
          have cg1 := hgb.2.1.cell 1
          have cg2 := hgb.2.1.cell 2
          have cg3 := hgb.2.1.cell 3
          have cg4 := hgb.2.1.cell 4
          simp at cb cg0 cg1 cg2 cg3 cg4
          have lb := hgb.1.lt
          have lg := hgb.2.1.lt
          have hMl := hgb.2.2.lt
          have hlI : (0 : Int) < (((l' ++ rl).length - i : Nat) : Int) := by omega
          have hkI : (k : Int) < 4 := by omega
          have hL0 : 0 < (l' ++ rl).length - i := by omega
          obtain ⟨q, hq⟩ : ∃ q, peerL ws x1 k = q := ⟨_, rfl⟩
          obtain ⟨q1, q2, hq12⟩ : ∃ q1 q2, q.getD (0, 0) = (q1, q2) := ⟨_, _, rfl⟩
          have pV : peerV q = .tuple #[.agg #[.int .i64 q1, .int .i64 q2], .bool q.isSome] := by
            rcases q with _ | ⟨a, b⟩ <;> (simp at hq12; obtain ⟨rfl, rfl⟩ := hq12; rfl)
          have LK : ∀ w', MapIs w' r (pairs ws) → (Instr.lookup 61 (.map (some r)) (.agg #[.int .i64 x1, .int .i64 (k : Int)]) true).run Try.prog w' = .ok (.tuple #[.agg #[.int .i64 q1, .int .i64 q2], .bool q.isSome]) w' := fun w' hm => by
            have h := run_lookup61 hm x1 (k : Int)
            rw [lookL_pairs, hq, pV] at h
            exact h
          have HLK := Lib.hid LK; clear LK pV
          have HQ := Lib.hid hq; clear hq
          have HQ12 := Lib.hid hq12; clear hq12
          have hL8 : (l' ++ rl).length - i ≤ 8 := by omega
          generalize hls : (l' ++ rl).length - i = L at *
          have Hls := Lib.hid hls; clear hls
          go_upto_region 9 with (fail)
          go_cut [6, 7] (fun s6 s7 wx => ∃ g6 : Nat, s6 = .pointer (some ⟨g6, 0, none⟩) ∧ s7 = .bool q.isSome ∧ Blk wx g6 24 #[.int .i64 q1, .int .i64 q2] ∧ Below wr.heap.size wr wx)
          case first =>
            go_region_held3 (fun w' => wr.heap.size ≤ w'.heap.size ∧ (∀ b o, b < wr.heap.size → w'.cell? ⟨b, o, none⟩ = wr.cell? ⟨b, o, none⟩) ∧
                (Instr.lookup 61 (.map (some r)) (.agg #[.int .i64 x1, .int .i64 (k : Int)]) true).run Try.prog w' = .ok (.tuple #[.agg #[.int .i64 q1, .int .i64 q2], .bool q.isSome]) w')
              (first | exact ⟨SBel.drew.1, SBel.drew.2, HLK.out _ hgb.2.2.drew⟩ | exact ⟨(SBel.drew.alloc _).1, (SBel.drew.alloc _).2, HLK.out _ (hgb.2.2.drew.alloc _)⟩)
              (fail)
            all_goals
              go_wp2
              go_meet
              exact ⟨wr.heap.size, rfl, rfl, Blk.new wr.drew _ _, (Below.refl wr.heap.size wr).drew.alloc (Nat.le_refl _) _⟩
          case rest =>
            clear cb cg0 cg1 cg2 cg3 cg4 c0 HLK
            obtain ⟨g6, rfl, rfl, b6, k6⟩ := hcut
            have hgb' := hgb.below k6
            have bF' := bF.call k6
            have hown' := hown.below k6
            have HJ' : Hid (J (l'.take (i + 1)) wc) := HJ.out _ _ _ HJ1.out (k6.mono hWr)
            have hWr' := Nat.le_trans hWr k6.size
            clear hgb bF hown HJ1 hWr lb lg hMl k6 hq2
            rcases q with _ | ⟨a, b⟩
            · go_wp2
              go_roundw
              case rel =>
                refine ⟨k + 1, rl, by go_num, by omega, by rw [Hls.out]; exact hown', bF', hgb', hF2, ?_, HJ', hWr'⟩
                show _ = _
                rw [Hn.out, ordFrom_step _ _ _ _ hk4, ordStep_fresh, HQ.out]; rfl
              case measure => simp [intOf]; omega
            · obtain ⟨rfl, rfl⟩ : a = q1 ∧ b = q2 := by have h := HQ12.out; simp at h; exact h
              have hq0 := peerL_ok Hok.out HQ.out
              simp only at hq0
              obtain ⟨hqa, hqb⟩ := hq0
              have hq8 : a < 8 := by omega
              have c60 := b6.cell 0
              have c61 := b6.cell 1
              simp at c60 c61
              have cF := (bF'.cell a.toNat).trans (flags_get (l' ++ rl) a.toNat (by omega))
              have hfr := fresh_any (a, b) (l' ++ rl)
              rw [show ((a.toNat : Nat) : Int) = a from Int.toNat_of_nonneg hqa] at cF
              generalize hfa : ((l' ++ rl).any fun p => p.1 == a) = fa at *
              clear hfa
              have Hfr := Lib.hid hfr; clear hfr
              cases fa
              · have cFz := bF'.frozen a.toNat
                go_upto_region 12 with (fail)
                have bF2 := bF'.set_ a.toNat (.bool true)
                rw [flags_snoc (l' ++ rl) (a, b) hqa hq8] at bF2
                have kS : Below W.heap.size wc (wc.setCell ⟨W.heap.size, a.toNat, none⟩ (.bool true)) := Below.setCell (Below.refl W.heap.size wc) (p := ⟨W.heap.size, a.toNat, none⟩) (Nat.le_refl W.heap.size) _
                have hgS : gbox (wc.setCell ⟨W.heap.size, a.toNat, none⟩ (.bool true)) gb g r N hn hl A m c ws := hgb'.under kS gbL gL rL
                have b6S : Blk (wc.setCell ⟨W.heap.size, a.toNat, none⟩ (.bool true)) g6 24 #[.int .i64 a, .int .i64 b] := b6.far (b6.ne_ bF' (by decide)) _
                have hownS := hown'.farSet (p := ⟨W.heap.size, a.toNat, none⟩) (Nat.lt_succ_self W.heap.size) (.bool true)
                have HJS : Hid (J (l'.take (i + 1)) (wc.setCell ⟨W.heap.size, a.toNat, none⟩ (.bool true))) := HJ.out _ _ _ HJ'.out kS
                have hWrS := Nat.le_trans hWr' kS.size
                clear hgb' bF' hown' HJ' hWr' b6 cF cFz c60 c61 kS
                generalize wc.setCell ⟨W.heap.size, a.toNat, none⟩ (.bool true) = wd at *
                have c60 := b6S.cell 0
                have c61 := b6S.cell 1
                simp at c60 c61
                obtain ⟨v', w', hrun, hown2, hgr, hB2⟩ := app_off Try.underlying67 hi0 hz0 hz1 hz2 rfl (by decide) (hownS.alloc (.cells #[.int .i64 a, .int .i64 b] 24)) (by simp <;> omega) wd.heap.size 1 1 #[.int .i64 a, .int .i64 b] (Blk.new wd _ _) rfl (by simp [Value.oneCell']) (by omega) (by omega) (by omega) 67
                have kA : Below W.heap.size wd w' := ((Below.refl _ wd).alloc hWrS _).trans (hB2.mono (by omega))
                have bF3 : Blk w' W.heap.size 77 (flags (l' ++ rl ++ [(a, b)])) := (bF2.alloc _).below hB2 (by omega)
                have hg3 : gbox w' gb g r N hn hl A m c ws := hgS.under kA gbL gL rL
                have HJ3 : Hid (J (l'.take (i + 1)) w') := HJ.out _ _ _ HJS.out kA
                have hWr3 := Nat.le_trans hWrS kA.size
                clear hownS bF2 hgS HJS hWrS b6S kA hgr hB2
                go_wp2_with (at_builtin; refine app_run rfl (.tmp 61) (.tmp 63) 67 rfl _ _ rfl rfl hrun ?_)
                go_roundw
                case rel =>
                  refine ⟨k + 1, rl ++ [(a, b)], by go_num, by omega, ?_, by rw [← List.append_assoc]; exact bF3, hg3, ?_, ?_, HJ3, hWr3⟩
                  · have e : (l' ++ (rl ++ [(a, b)])).length - i = L + 1 := by rw [← List.append_assoc, List.length_append]; have := Hls.out; simp only [List.length_cons, List.length_nil]; omega
                    rw [e, ← List.append_assoc, List.drop_append_of_le_length (by omega), pcells_append]; exact hown2
                  · have h2 := hF2.step Hok.out k (n := x1)
                    rwa [ordStep_fresh, HQ.out, Hfr.out, Bool.not_false, if_pos rfl, List.append_assoc] at h2
                  · show _ = _
                    rw [Hn.out, ordFrom_step _ _ _ _ hk4, ordStep_fresh, HQ.out, Hfr.out, Bool.not_false, if_pos rfl, List.append_assoc]; rfl
                case measure => simp [intOf]; omega
              · go_wp2
                go_roundw
                case rel =>
                  refine ⟨k + 1, rl, by go_num, by omega, by rw [Hls.out]; exact hown', bF', hgb', hF2, ?_, HJ', hWr'⟩
                  show _ = _
                  rw [Hn.out, ordFrom_step _ _ _ _ hk4, ordStep_fresh, HQ.out, Hfr.out]; rfl
                case measure => simp [intOf]; omega
        · obtain rfl : 4 = k := by omega
          obtain ⟨n1, hn1⟩ : ∃ n1, (l' ++ rl).length - i = n1 + 1 := ⟨(l' ++ rl).length - i - 1, by omega⟩
          rw [hn1] at hown hq3 hqc ⊢
          have hown2 := hown.tail
          rw [pcells_drop] at hown2
          have H2 := Lib.hid hown2; clear hown2
          have h1c : (1 : Int) ≤ (cap : Int) := by omega
          have h1n : (1 : Int) ≤ ((n1 + 1 : Nat) : Int) := by omega
          have hn9 : n1 ≤ 8 := by omega
          clear hqc hq2
          go_wp2
          have e1n : ((1 : Int) ≤ (cap : Int)) := by omega
          by_cases hc1 : cap = 1
          · have h2c := H2.out
            rw [if_pos hc1] at h2c
            subst hc1
            obtain rfl : n1 = 0 := by omega
            have H3 := Lib.hid h2c; clear h2c H2
            gi_wp2
            gi_roundg (9 - (i + 1))
            case measure => omega
            case rel =>
              refine ⟨i + 1, l' ++ rl, by omega, by omega, (by rw [show (l' ++ rl).length - (i + 1) = 0 from by omega]; exact H3.out), bF, hgb, hF2, ?_, ?_, hWr⟩
              · show _ = _
                rw [Hord.out, show 9 - i = 9 - (i + 1) + 1 from by omega, ordL_step HX.out, Hn.out, ordFrom_four]
              · rw [List.take_append_of_le_length (by omega)]; exact HJ1
          · have h2c := H2.out
            rw [if_neg hc1] at h2c
            have H3 := Lib.hid h2c; clear h2c H2
            gi_wp2
            gi_roundg (9 - (i + 1))
            case measure => omega
            case rel =>
              refine ⟨i + 1, l' ++ rl, by omega, by omega, (by rw [show (l' ++ rl).length - (i + 1) = n1 from by omega]; exact H3.out), bF, hgb, hF2, ?_, ?_, hWr⟩
              · show _ = _
                rw [Hord.out, show 9 - i = 9 - (i + 1) + 1 from by omega, ordL_step HX.out, Hn.out, ordFrom_four]
              · rw [List.take_append_of_le_length (by omega)]; exact HJ1
    · obtain rfl : l'.length = i := by omega
      rw [Nat.sub_self] at hown hq3 hqc ⊢
      gi_wp2
      go_end0
      refine ⟨⟨_, rfl⟩, ?_⟩
      rw [Hord.out, ordL_end (Nat.le_refl _)]
      have h := HJl.out
      rwa [List.take_of_length_le (Nat.le_refl _)] at h
end Go.Proofs.Ytadpenphiagdmaa
