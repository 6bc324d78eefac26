/- Texts that belong together, joined: what each one holds is told ahead of it. -/
import Derived.Test.YtbefmlioampgcaaDoorHK17
import Derived.Test.YtbefmlioampgcaaDoorHCG
import Derived.Test.YtbefmlioampgcaaDoorRows
import Derived.SizedLaws
import Derived.Handed
import Derived.HandedShaped
import Derived.Shelf.Vars
import Derived.ProofKit
set_option linter.unusedVariables false
set_option linter.unusedSimpArgs false
/- GenexpRuns, walked. -/
namespace Go.Proofs.YtbefmlioampgcaaDoor
open Go.RowKit
set_option linter.unusedVariables false
set_option linter.unusedSimpArgs false

theorem word_atR {w : World} {A : Option Addr} {m : Nat} {ws : List Int} {B : Nat} (h : Reads w B 1 A m (wordsC ws)) {k : Nat} (hk : k < m) (hm : ws.length = m) :
    ∃ b off v, A = some ⟨b, off, none⟩ ∧ b < B ∧ ws[k]? = some v ∧ w.cell? ⟨b, off + k, none⟩ = some (.int .i32 v) := by
  obtain ⟨b, off, rfl, hb, hc⟩ := h.addr (by omega) (by omega)
  have hv : ws[k]? = some ws[k] := List.getElem?_eq_getElem (by omega)
  exact ⟨b, off, ws[k], rfl, hb, hv, hc k _ (wordsC_get hv)⟩
set_option maxRecDepth 100000 in
set_option maxHeartbeats 4000000 in
theorem lRuns (ls : List LineL) (hok : ∀ x ∈ ls, LOk x) (A : Option Addr) (n c : Nat) (hn : n ≤ 9223372036854775807) (ws : List Int) (hws : ∀ v ∈ ws, is32 v) (Aw : Option Addr) (m cw : Nat) (hm : ws.length = m) (hm2 : m ≤ 9223372036854775807) (B : Nat) (w : World)
    (hr : Reads w w.heap.size 5 A n (linesL ls)) (hrw : Reads w w.heap.size 1 Aw m (wordsC ws)) (hL : LaidG B w) (hB : B ≤ w.heap.size) :
    Calls Tryd.prog 3 #[.slice A n c, .slice Aw m cw] w (RetV (.bool true) w) := by
  have HR := Lib.hid hr
  have HRW := Lib.hid hrw
  have HK := Lib.hid hok
  have HWS := Lib.hid hws
  have HM := Lib.hid hm
  have HH : Hid (∀ W, Below w.heap.size w W → Calls Tryd.prog 7 #[] W (RetV (.bool true) W)) := Lib.hid fun W hb => lHead B W (hL.on (hb.mono hB)) (Nat.le_trans hB hb.size)
  obtain ⟨i0, hi0, hz0, hz1, hz2⟩ := info_parts i32_info
  clear hr hok hrw hws hm hL
  by_cases hg : (600 < n ∧ n ≤ 4096) ∨ 70000 < m
  · have hg' : (600 < n ∧ n ≤ 4096) ∨ (n ≤ 600 ∧ 70000 < m) ∨ (4096 < n ∧ 70000 < m) := by omega
    clear hg hi0 hz0 hz1 hz2
    rcases hg' with ⟨h1, h2⟩ | ⟨h1, h2⟩ | ⟨h1, h2⟩
    all_goals
      go_enter Tryd.func3, Tryd.ntmps3
      go_wp2_with first
        | (go_at_call 7; (with_reducible refine (HH.out _ (Below.refl _ _)).mono ?_); rintro e w1 ⟨rfl, hb1⟩)
      go_ret
      exact ⟨rfl, hb1⟩
  · have hg' : (n ≤ 600 ∧ m ≤ 70000) ∨ (4096 < n ∧ m ≤ 70000) := by omega
    clear hg
    obtain ⟨q, hq⟩ : ∃ q, runQ ls ws = q := ⟨_, rfl⟩
    have HP : Hid (∀ (W : World) (A2 : Option Addr) (c2 : Nat), Below w.heap.size w W → W.ownsRow w.heap.size 21 1 (.slice A2 m c2) m (wordsC ws) → Calls Tryd.prog 8 #[.slice A n c, .slice A2 m c2] W (RetV (runV q) W)) := Lib.hid fun W A2 c2 hb ho => by
      rw [← hq]
      exact wRun ls HK.out A n c hn ws HWS.out A2 m c2 HM.out hm2 W ((HR.out.below hb).more hb.size) (Reads.of_own ho)
    have HRR : Hid (∀ W, Below w.heap.size w W → Calls Tryd.prog 9 #[.slice A n c, .slice Aw m cw] W (RetV (runV q) W)) := Lib.hid fun W hb => by
      rw [← hq]
      exact rRun25 ls HK.out A n c hn ws HWS.out Aw m cw HM.out hm2 W ((HR.out.below hb).more hb.size) ((HRW.out.below hb).more hb.size)
    obtain ⟨q1, q2, q3⟩ := q
    simp only [runV] at HP HRR
    have hmm : m ≤ 70000 := by omega
    clear hq
    rcases hg' with ⟨h1, h2⟩ | ⟨h1, h2⟩
    all_goals
      go_enter Tryd.func3, Tryd.ntmps3
      go_wp2_with first
        | (at_builtin; refine wpList_append_any w rfl (.tmp 27) (.tmp 28) 23 rfl w.heap.size 21 i0 _ 1 4 Tryd.underlying23 hi0 hz0 hz1 hz2 rfl (by decide) _ 0 [] rfl (World.ownsRow_nil _ _ _ _) w.heap.size Aw m cw (wordsC ws) rfl HRW.out (words_one ws) (by unfold maxLen; omega) (by omega) (Nat.le_refl _) ?_; intro v' w2 hown hgr hat
           have hown2 : w2.ownsRow w.heap.size 21 1 v' m (wordsC ws) := by simpa using hown
           obtain ⟨A2, cc2, rfl⟩ := own_form hown2
           have hgr2 : w.grownBy w2 none := hgr
           have KW := Lib.hid ((Below.refl w.heap.size w).grown hgr2 (Nat.le_refl _) (fun k e => by cases e))
           have HO := Lib.hid hown2
           clear hown hgr hat hown2 hgr2)
        | (go_at_call 8; (with_reducible refine (HP.out _ _ _ KW.out HO.out).mono ?_); rintro e3 w3 ⟨rfl, hb3⟩
           have HO3 := Lib.hid (HO.out.below hb3)
           have KW3 := Lib.hid (KW.out.trans (hb3.mono KW.out.size))
           clear hb3)
        | (go_at_call 9; (with_reducible refine (HRR.out _ KW3.out).mono ?_); rintro e4 w4 ⟨rfl, hb4⟩
           have HO4 := Lib.hid (HO3.out.below hb4)
           have KW4 := Lib.hid (KW3.out.trans (hb4.mono KW3.out.size))
           clear hb4)
      clear KW KW3 HO HO3 hi0 hz0 hz1 hz2
      go_loopw [12] (fun i wr => ∃ k : Nat, k ≤ m ∧ i = .int .i64 k ∧ Hid (Below w.heap.size w wr) ∧ Hid (wr.ownsRow w.heap.size 21 1 (.slice A2 m cc2) m (wordsC ws))) (fun i _ => m - (intOf i).toNat)
      case atStart => exact ⟨0, Nat.zero_le _, rfl, KW4, HO4⟩
      case round =>
        clear HO4 KW4
        obtain ⟨k, hk, rfl, K, O⟩ := hrel
        by_cases hlt : k < m
        · have hltI : (k : Int) < m := by omega
          have hkN : ¬ m ≤ k := by omega
          obtain ⟨b, off, v, hA1, hb1, hv1, c1⟩ := word_atR (HRW.out.below K.out) hlt HM.out
          obtain ⟨b2, off2, v2, hA2, hb2, hv2, c2⟩ := word_atR (Reads.of_own O.out) hlt HM.out
          obtain rfl : v2 = v := by rw [hv1] at hv2; exact (Option.some.inj hv2).symm
          rw [hA1, hA2]
          have hbb : b < wr.heap.size := Nat.lt_of_lt_of_le hb1 K.out.size
          have HA2 := Lib.hid hA2
          clear hA1 hA2 hv1 hv2
          obtain ⟨ι, F, i0', h0', hFb, hcl⟩ := fam_below wr
          haveI : Nonempty ι := ⟨i0'⟩
          have F1 : ∀ i, (F i).cell? ⟨b, off + k, none⟩ = some (.int .i32 v2) := fun i => ((bcell (hFb i)).1 _ _ hbb).trans c1
          have F2 : ∀ i, (F i).cell? ⟨b2, off2 + k, none⟩ = some (.int .i32 v2) := fun i => ((bcell (hFb i)).1 _ _ hb2).trans c2
          have HFB := Lib.hid hFb
          clear hFb
          go_wp2
          refine wp_region_quiet_fam F i0' h0' (by kernel_rfl) (by kernel_rfl) ?_
          repeat (go_big_quiet_step (fail))
          refine wpQuiet_nil ?_
          intro i
          go_wp2
          go_roundw
          case rel => exact ⟨k + 1, by omega, by go_num, Lib.hid (K.out.trans ((HFB.out i).mono K.out.size)), Lib.hid (by rw [← HA2.out]; exact O.out.below (HFB.out i))⟩
          case measure => simp [intOf]; omega
        · have hltI : ¬ (k : Int) < m := by omega
          have hkN : m ≤ k := by omega
          go_wp2_with first
            | (go_at_call 7; (with_reducible refine (HH.out _ K.out).mono ?_); rintro e w5 ⟨rfl, hb5⟩)
          go_ret
          exact ⟨rfl, K.out.trans (hb5.mono K.out.size)⟩
theorem runs_true (ls : List LineL) (hok : ∀ x ∈ ls, LOk x) (A : Option Addr) (c : Nat) (ws : List Int) (hws : ∀ v ∈ ws, is32 v) (Aw : Option Addr) (cw : Nat) (B : Nat) (w : World) (hr : Reads w w.heap.size 5 A ls.length (linesL ls)) (hn : ls.length ≤ 9223372036854775807)
    (hrw : Reads w w.heap.size 1 Aw ws.length (wordsC ws)) (hm : ws.length ≤ 9223372036854775807) (hL : LaidG B w) (hB : B ≤ w.heap.size) :
    Calls Tryd.prog 3 #[.slice A (ls.length : Nat) c, .slice Aw (ws.length : Nat) cw] w (RetV (.bool true) w) :=
  lRuns ls hok A ls.length c hn ws hws Aw ws.length cw rfl hm B w hr hrw hL hB
end Go.Proofs.YtbefmlioampgcaaDoor

/- A row's wrap that keeps what is laid and the world's shape alike. -/
namespace Go.Proofs.YtbefmlioampgcaaDoor
open Go Go.RowKit
variable {H : Type} {enc : TypeId × Value → H}
theorem returns_and_shaped {a : Assume} {C : Checked} {os : Os} {f : FuncId} {fn : Func} {s : ChangeSpec} {conds : List PathCond} {apart fresh handsOn again : Bool} {X : World → Array Value → Prop}
    (hX : ∀ (w w' : World) (args : Array Value), w.heap = w'.heap → X w args → X w' args)
    (own : ownKnob C.prog.godebug = none) (started : os.Started) (noInit : C.prog.inits.idxOf? f = none) (hfn : C.prog.funcs[f]? = some fn)
    (witness : ∃ (w : World) (tape : Tape) (i : Input), w.os = os ∧ (w.forCall tape i).Shaped C.prog ∧ i.vars = [] ∧ Input.okWide C.prog (w.forCall tape i) .any w.heap.size f i ∧
      ((s.pre enc C.prog fn conds apart (w.forCall tape i).memory i.args ∧ X (w.forCall tape i).memory i.args) ∧ sizedMet enc C.prog fn (OpenSpec.ofChange s) apart (w.forCall tape i).memory i.args) ∧ a.holds C.prog (lone (Frame.enter C.prog f i.args .normal) [] (w.forCall tape i)))
    (contract : ∀ (W : World) (base : Nat) (args : Array Value) (ds gs : List (DataW H)) (before : List MemPlace),
      (∀ (j : Nat) t v, fn.params[j]? = some t → args[j]? = some v → Value.okWide C.prog W .any base t v) →
      DataW.Whole enc C.prog fn.params.toList s.vars apart W args.toList ds gs before →
      conds.all (PathCond.test C.prog ⟨fn.params.toList, ds, s.plain.varTypes C.prog, gs⟩) = true →
      (DataW.weightsEach C.prog (fn.params.toList ++ s.plain.varTypes C.prog) (ds ++ gs)).all (· ≤ reachBytes) = true → X W args →
      W.ShapedOpen C.prog →
      a.holds C.prog (lone (Frame.enter C.prog f args .normal) [] W) →
      Calls C.prog f args W fun e W' => ∃ v, e = .returned v ∧ s.post enc C.prog fn apart fresh handsOn again W args v W') :
    ReturnsInHanded a C os f .any (fun w args => (s.pre enc C.prog fn conds apart w args ∧ X w args) ∧ sizedMet enc C.prog fn (OpenSpec.ofChange s) apart w args) (s.post enc C.prog fn apart fresh handsOn again) := by
  refine returnsInHanded_of_calls own started noInit witness ?_
  intro w tape i _ hsh _ hok hpre hholds
  obtain ⟨_, _, _, fn', hfn', _, _, _, _, hval⟩ := hok
  have e : fn' = fn := Option.some.inj (hfn'.symm.trans hfn)
  subst e
  obtain ⟨⟨⟨ds, gs, before, hw, hc⟩, hx⟩, hz⟩ := hpre
  have hw' := DataW.Whole.of_heap (w' := w.forCall tape i) (by rfl) hw
  refine (contract (w.forCall tape i) w.heap.size i.args ds gs before hval hw' hc (hz.weights hw) (hX _ _ _ (by rfl) hx) hsh hholds).mono fun e W' ⟨v, he, hp⟩ => ?_
  subst he
  exact ChangeSpec.post_blind hp
end Go.Proofs.YtbefmlioampgcaaDoor
