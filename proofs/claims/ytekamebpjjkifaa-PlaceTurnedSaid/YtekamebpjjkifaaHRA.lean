/- Lists of placings compared: Same of the document, walked. -/
import Derived.Test.YtekamebpjjkifaaHK45
namespace Go.Proofs.Ytekamebpjjkifaa
open Go.RowKit
set_option linter.unusedSimpArgs false
set_option linter.unusedVariables false

set_option maxRecDepth 100000 in
set_option maxHeartbeats 4000000 in
theorem rSame40 (l l' : List Plc) (A A' : Option Addr) (c c' B B' : Nat) (w : World) (hl : l.length ≤ 140737488355328) (h : Reads w B 5 A l.length (plcC l)) (h' : Reads w B' 5 A' l'.length (plcC l')) :
    Calls Try.prog 17 #[.slice A l.length c, .slice A' l'.length c'] w (RetV (.bool (decide (l = l'))) w) := by
  have HL := Lib.hid h
  have HL' := Lib.hid h'
  obtain ⟨n, hn⟩ : ∃ q, l.length = q := ⟨_, rfl⟩
  obtain ⟨n', hn'⟩ : ∃ q, l'.length = q := ⟨_, rfl⟩
  have HN := Lib.hid hn
  have HN' := Lib.hid hn'
  have HEQ : Hid (∀ R : Bool, (l = l' ↔ R = true) → decide (l = l') = R) := Lib.hid fun R h => by rw [Bool.eq_iff_iff, ← h, decide_eq_true_eq]
  generalize decide (l = l') = R at *
  rw [hn] at HL hl ⊢
  rw [hn'] at HL' ⊢
  clear h h' hn hn'
  by_cases hne : n = n'
  · subst hne
    have y : ((n : Int) != (n : Int)) = false := by simp
    go_enter Try.func17, Try.ntmps17
    go_wp2_with fail
    go_loopw [5] (fun i W => ∃ j q : Nat, j ≤ n ∧ i = .int .i64 j ∧ Hid (l.take j = l'.take j) ∧ W = w.drewN q) (fun i _ => n - (intOf i).toNat)
    case atStart => exact ⟨0, 0, Nat.zero_le _, rfl, Lib.hid rfl, rfl⟩
    case round =>
      obtain ⟨j, q, hj, rfl, HT, rfl⟩ := hrel
      by_cases hlt : j < n
      · have hltI : (j : Int) < n := by omega
        obtain ⟨b, off, x, hA, hb, hx, hm, c0, c1, c2, c3, c4⟩ := plcs_at HL.out HN.out hlt
        obtain ⟨b', off', x', hA', hb', hx', hm', c0', c1', c2', c3', c4'⟩ := plcs_at HL'.out HN'.out hlt
        clear hm hm'
        subst hA hA'
        by_cases he : x = x'
        · have HT2 := Lib.hid (take_eq_snoc HT.out hx hx' he)
          have yt : plcEq x.c x.o.1 x.o.2 x.i.1 x.i.2 x'.c x'.o.1 x'.o.2 x'.i.1 x'.i.2 = true := by rw [plcEq_iff]; exact decide_eq_true he
          clear hx hx' he
          go_upto_region 6 with fail
          go_quiet (fail)
          go_wp2
          go_roundw
          case rel => exact ⟨j + 1, _, by omega, by go_num, HT2, rfl⟩
          case measure => simp [intOf]; omega
        · have HNE := Lib.hid (HEQ.out false ⟨fun h => absurd h (ne_of_get hx hx' he), fun h => by cases h⟩)
          have yt : plcEq x.c x.o.1 x.o.2 x.i.1 x.i.2 x'.c x'.o.1 x'.o.2 x'.i.1 x'.i.2 = false := by rw [plcEq_iff]; exact decide_eq_false he
          clear hx hx' he
          go_upto_region 6 with fail
          go_quiet (fail)
          go_wp2
          go_ret
          exact ⟨by refine ret_bool rfl ?_; rw [HNE.out], by first | exact below_drewN (Below.refl _ _) _ | exact below_drewN (below_drewN (Below.refl _ _) _) _⟩
      · have hltI : ¬ (j : Int) < n := by omega
        obtain rfl : n = j := by omega
        have hst := HT.out
        rw [List.take_of_length_le (by rw [HN.out]; omega), List.take_of_length_le (by rw [HN'.out]; omega)] at hst
        have HX := Lib.hid (HEQ.out true ⟨fun _ => rfl, fun _ => hst⟩)
        clear hst
        go_wp2
        go_ret
        exact ⟨by refine ret_bool rfl ?_; rw [HX.out], below_drewN (Below.refl _ _) _⟩
  · have y : ((n : Int) != (n' : Int)) = true := by simp; omega
    have HX := Lib.hid (HEQ.out false ⟨fun h => absurd (by rw [← HN.out, ← HN'.out, h]) hne, fun h => by cases h⟩)
    clear hne
    go_enter Try.func17, Try.ntmps17
    go_wp2
    go_ret
    exact ⟨by refine ret_bool rfl ?_; rw [HX.out], Below.refl _ _⟩
end Go.Proofs.Ytekamebpjjkifaa
