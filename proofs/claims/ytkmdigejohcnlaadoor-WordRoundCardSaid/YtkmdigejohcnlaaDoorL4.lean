/- The laws WordClock and WordRound, walked. -/
import Derived.Test.YtkmdigejohcnlaaDoorL2
namespace Go.Proofs.YtkmdigejohcnlaaDoor
open Go.RowKit
set_option linter.unusedVariables false
set_option linter.unusedSimpArgs false

theorem clock_true (B : Nat) (a b c : Int) (w : World) (ha : is32 a) (hb : is32 b) (_hc : is32 c) (hL : Laid B w) (hB : B ≤ w.heap.size) : Calls Tryd.prog 10 #[.int .i32 a, .int .i32 b, .int .i32 c] w (RetV (.bool true) w) := by
  have hW := Lib.hid (works_yes B w hL hB)
  obtain ⟨a0, a1⟩ := ha
  obtain ⟨b0, b1⟩ := hb
  have hab := fun w => wAfter a b w
  have hba := fun w => wAfter b a w
  have haa := fun w => wAfter a a w
  have hm := fun w => wAfter (wrap32 (a + c)) (wrap32 (b + c)) w
  have hd := fun w => wDiff a b w
  have hs1 := fun w => wSum a c w
  have hs2 := fun w => wSum b c w
  have hs3 := fun w => wSum b (wrap32 (a - b)) w
  have e1 : wrap32 (a - a) = 0 := by unfold wrap32; omega
  have e2 : wrap32 (wrap32 (a + c) - wrap32 (b + c)) = wrap32 (a - b) := by unfold wrap32; omega
  have e3 : wrap32 (b + wrap32 (a - b)) = a := by unfold wrap32; omega
  have e4 : (wrap32 (a - b) = 0 ∧ wrap32 (b - a) = 0) ∨ (wrap32 (a - b) = -2147483648 ∧ wrap32 (b - a) = -2147483648) ∨ (¬ wrap32 (a - b) = 0 ∧ ¬ wrap32 (a - b) = -2147483648 ∧ wrap32 (b - a) = -wrap32 (a - b)) := by unfold wrap32; omega
  rw [e1] at haa
  rw [e2] at hm
  rw [e3] at hs3
  clear e1 e2 e3
  generalize wrap32 (a + c) = s1 at *
  generalize wrap32 (b + c) = s2 at *
  generalize wrap32 (a - b) = x at *
  generalize wrap32 (b - a) = y at *
  have e5 : ((x = 0 ∨ x = -2147483648) ∧ decide (0 < x) = false ∧ decide (0 < y) = false) ∨ (¬ x = 0 ∧ ¬ x = -2147483648 ∧ decide (0 < y) = !decide (0 < x)) := by
    rcases e4 with ⟨h, h'⟩ | ⟨h, h'⟩ | ⟨h, h', h''⟩
    · exact .inl ⟨.inl h, by simp [h], by simp [h']⟩
    · exact .inl ⟨.inr h, by simp [h], by simp [h']⟩
    · refine .inr ⟨h, h', ?_⟩
      by_cases h3 : 0 < x
      · have : ¬ 0 < y := by omega
        simp [h3, this]
      · have : 0 < y := by omega
        simp [h3, this]
  generalize decide (0 < x) = p at *
  generalize decide (0 < y) = p' at *
  have e6 : decide ((0 : Int) < 0) = false := rfl
  rw [e6] at haa
  have HAB := Lib.hid hab
  have HBA := Lib.hid hba
  have HAA := Lib.hid haa
  have HM := Lib.hid hm
  have HD := Lib.hid hd
  have HS1 := Lib.hid hs1
  have HS2 := Lib.hid hs2
  have HS3 := Lib.hid hs3
  clear hab hba haa hm hd hs1 hs2 hs3 e4 e6 hL
  rcases e5 with ⟨h1, rfl, rfl⟩ | ⟨h1, h2, rfl⟩
  · rcases h1 with rfl | rfl
    all_goals
      go_enter Tryd.func10, Tryd.ntmps10
      go_wp2_with (first
        | (go_at_call 38; (with_reducible refine (HAB.out _).mono ?_); rintro e w1 ⟨rfl, rfl⟩)
        | (go_at_call 38; (with_reducible refine (HBA.out _).mono ?_); rintro e w1 ⟨rfl, rfl⟩)
        | (go_at_call 38; (with_reducible refine (HAA.out _).mono ?_); rintro e w1 ⟨rfl, rfl⟩)
        | (go_at_call 38; (with_reducible refine (HM.out _).mono ?_); rintro e w1 ⟨rfl, rfl⟩)
        | (go_at_call 39; (with_reducible refine (HD.out _).mono ?_); rintro e w1 ⟨rfl, rfl⟩)
        | (go_at_call 40; (with_reducible refine (HS1.out _).mono ?_); rintro e w1 ⟨rfl, rfl⟩)
        | (go_at_call 40; (with_reducible refine (HS2.out _).mono ?_); rintro e w1 ⟨rfl, rfl⟩)
        | (go_at_call 40; (with_reducible refine (HS3.out _).mono ?_); rintro e w1 ⟨rfl, rfl⟩)
        | (go_at_call 17; refine hW.out.mono ?_; rintro e w2 ⟨rfl, hb2⟩))
      go_ret
      exact ⟨rfl, hb2⟩
  · have t1 : (x == 0) = false := by simpa using h1
    have t2 : (x == -2147483648) = false := by simpa using h2
    cases p
    all_goals
      go_enter Tryd.func10, Tryd.ntmps10
      go_wp2_with (first
        | (go_at_call 38; (with_reducible refine (HAB.out _).mono ?_); rintro e w1 ⟨rfl, rfl⟩)
        | (go_at_call 38; (with_reducible refine (HBA.out _).mono ?_); rintro e w1 ⟨rfl, rfl⟩)
        | (go_at_call 38; (with_reducible refine (HAA.out _).mono ?_); rintro e w1 ⟨rfl, rfl⟩)
        | (go_at_call 38; (with_reducible refine (HM.out _).mono ?_); rintro e w1 ⟨rfl, rfl⟩)
        | (go_at_call 39; (with_reducible refine (HD.out _).mono ?_); rintro e w1 ⟨rfl, rfl⟩)
        | (go_at_call 40; (with_reducible refine (HS1.out _).mono ?_); rintro e w1 ⟨rfl, rfl⟩)
        | (go_at_call 40; (with_reducible refine (HS2.out _).mono ?_); rintro e w1 ⟨rfl, rfl⟩)
        | (go_at_call 40; (with_reducible refine (HS3.out _).mono ?_); rintro e w1 ⟨rfl, rfl⟩)
        | (go_at_call 17; refine hW.out.mono ?_; rintro e w2 ⟨rfl, hb2⟩))
      go_ret
      exact ⟨rfl, hb2⟩
theorem arr36 (x y : Bool) (w : World) : (Instr.index 36 (.agg #[.bool x, .bool y]) (.int .i64 0)).run Tryd.prog w = .ok (.bool x) w ∧ (Instr.index 36 (.agg #[.bool x, .bool y]) (.int .i64 1)).run Tryd.prog w = .ok (.bool y) w := by
  constructor
  · exact run_index_array 36 4 2 _ 0 _ w Tryd.underlying36 (by simp [Tryd.sizeOf4]) (by simp [Tryd.isAgg4]) (by decide) (by decide) rfl
  · exact run_index_array 36 4 2 _ 1 _ w Tryd.underlying36 (by simp [Tryd.sizeOf4]) (by simp [Tryd.isAgg4]) (by decide) (by decide) rfl
theorem textL_size (a : Int) (h : Bool) (ha : is32 a) : (strB (textL a h)).size ≤ 281474976710656 := by
  have := (textL_len (g := h) ha).2
  have e : (strB (textL a h)).size = (textL a h).length := rfl
  omega
theorem strB_inj {l m : List UInt8} (h : strB l = strB m) : l = m := by
  have := congrArg (fun b : ByteArray => b.data.toList) h
  simpa [strB] using this
theorem round_true (B : Nat) (a b : Int) (w : World) (ha : is32 a) (hb : is32 b) (hL : Laid B w) (hB : B ≤ w.heap.size) : Calls Tryd.prog 6 #[.int .i32 a, .int .i32 b] w (RetV (.bool true) w) := by
  have hS := Lib.hid (St.start hL hB)
  clear hL
  have hW := Lib.hid (fun w h1 h2 => works_yes B w h1 h2)
  obtain ⟨T, hT⟩ : ∃ T : Int → Bool → ByteArray, T = fun v h => strB (textL v h) := ⟨_, rfl⟩
  have hA : ∀ h w, Laid B w → Calls Tryd.prog 20 #[.int .i32 a, .bool h] w (RetV (.string (T a h)) w) := fun h w h1 => by rw [hT]; exact wText B a h w ha h1
  have hBB : ∀ h w, Laid B w → Calls Tryd.prog 20 #[.int .i32 b, .bool h] w (RetV (.string (T b h)) w) := fun h w h1 => by rw [hT]; exact wText B b h w hb h1
  have hR : ∀ h w, Laid B w → B ≤ w.heap.size → Calls Tryd.prog 18 #[.string (T a h)] w (RetV (.tuple #[.int .i32 a, .int .i64 0]) w) := fun h w h1 h2 => by
    have := wRead B (T a h) w (by rw [hT]; exact textL_size a h ha) h1 h2
    have e : readV (T a h).data.toList = .tuple #[.int .i32 a, .int .i64 0] := read_text (g := h) ha (by rw [hT]; rfl)
    rw [e] at this; exact this
  have hne : ∀ g h, ¬ (a = b ∧ g = h) → ¬ T a g = T b h := fun g h hn e => by
    rw [hT] at e
    exact hn (textL_inj ha hb (strB_inj e))
  have n1 := str_ne (hne false true (fun h => by cases h.2))
  have n2 := str_ne (hne true false (fun h => by cases h.2))
  have n3 : ¬ a = b → ((T a false).toList == (T b false).toList) = false ∧ ((T a true).toList == (T b true).toList) = false := fun h => ⟨str_ne (hne _ _ fun h' => h h'.1), str_ne (hne _ _ fun h' => h h'.1)⟩
  clear hT ha hb hne hB
  have HA := Lib.hid hA
  have HB := Lib.hid hBB
  have HR := Lib.hid hR
  clear hA hBB hR
  by_cases hab : a = b
  · subst hab
    clear n3
    go_enter Tryd.func6, Tryd.ntmps6
    go_wp2_with (fail)
    go_loopw [11] (fun i wr => ∃ k : Nat, k ≤ 2 ∧ i = .int .i64 k ∧ St B w wr) (fun i _ => 2 - (intOf i).toNat)
    case atStart => exact ⟨0, by omega, rfl, hS.out⟩
    case round =>
      clear hS
      obtain ⟨k, hk, rfl, hS'⟩ := hrel
      have hS := Lib.hid hS'
      clear hS'
      obtain ⟨z0, z1⟩ := arr36 false true wr
      rcases (by omega : k = 0 ∨ k = 1 ∨ k = 2) with rfl | rfl | rfl
      · go_wp2_with (first
          | (go_at_call 18; refine (HR.out _ _ hS.out.l hS.out.b).mono ?_; rintro e w1 ⟨rfl, hb1⟩; replace hS := Lib.hid (hS.out.call hb1); clear hb1)
          | (go_at_call 20; refine (HA.out _ _ hS.out.l).mono ?_; rintro e w1 ⟨rfl, hb1⟩; replace hS := Lib.hid (hS.out.call hb1); clear hb1))
        go_roundw
        case rel => exact ⟨1, by omega, rfl, hS.out⟩
        case measure => simp [intOf]
      · go_wp2_with (first
          | (go_at_call 18; refine (HR.out _ _ hS.out.l hS.out.b).mono ?_; rintro e w1 ⟨rfl, hb1⟩; replace hS := Lib.hid (hS.out.call hb1); clear hb1)
          | (go_at_call 20; refine (HA.out _ _ hS.out.l).mono ?_; rintro e w1 ⟨rfl, hb1⟩; replace hS := Lib.hid (hS.out.call hb1); clear hb1))
        go_roundw
        case rel => exact ⟨2, by omega, rfl, hS.out⟩
        case measure => simp [intOf]
      · go_wp2_with (go_at_call 17; refine (hW.out _ hS.out.l hS.out.b).mono ?_; rintro e w1 ⟨rfl, hb1⟩; replace hS := Lib.hid (hS.out.call hb1); clear hb1)
        go_ret
        exact ⟨rfl, hS.out.2.2⟩
  · obtain ⟨n4, n5⟩ := n3 hab
    have n6 : (a == b) = false := by simpa using hab
    clear n3
    go_enter Tryd.func6, Tryd.ntmps6
    go_wp2_with (fail)
    go_loopw [11] (fun i wr => ∃ k : Nat, k ≤ 2 ∧ i = .int .i64 k ∧ St B w wr) (fun i _ => 2 - (intOf i).toNat)
    case atStart => exact ⟨0, by omega, rfl, hS.out⟩
    case round =>
      clear hS
      obtain ⟨k, hk, rfl, hS'⟩ := hrel
      have hS := Lib.hid hS'
      clear hS'
      obtain ⟨z0, z1⟩ := arr36 false true wr
      rcases (by omega : k = 0 ∨ k = 1 ∨ k = 2) with rfl | rfl | rfl
      · go_wp2_with (first
          | (go_at_call 18; refine (HR.out _ _ hS.out.l hS.out.b).mono ?_; rintro e w1 ⟨rfl, hb1⟩; replace hS := Lib.hid (hS.out.call hb1); clear hb1)
          | (go_at_call 20; (with_reducible refine (HA.out _ _ hS.out.l).mono ?_); rintro e w1 ⟨rfl, hb1⟩; replace hS := Lib.hid (hS.out.call hb1); clear hb1)
          | (go_at_call 20; (with_reducible refine (HB.out _ _ hS.out.l).mono ?_); rintro e w1 ⟨rfl, hb1⟩; replace hS := Lib.hid (hS.out.call hb1); clear hb1))
        go_roundw
        case rel => exact ⟨1, by omega, rfl, hS.out⟩
        case measure => simp [intOf]
      · go_wp2_with (first
          | (go_at_call 18; refine (HR.out _ _ hS.out.l hS.out.b).mono ?_; rintro e w1 ⟨rfl, hb1⟩; replace hS := Lib.hid (hS.out.call hb1); clear hb1)
          | (go_at_call 20; (with_reducible refine (HA.out _ _ hS.out.l).mono ?_); rintro e w1 ⟨rfl, hb1⟩; replace hS := Lib.hid (hS.out.call hb1); clear hb1)
          | (go_at_call 20; (with_reducible refine (HB.out _ _ hS.out.l).mono ?_); rintro e w1 ⟨rfl, hb1⟩; replace hS := Lib.hid (hS.out.call hb1); clear hb1))
        go_roundw
        case rel => exact ⟨2, by omega, rfl, hS.out⟩
        case measure => simp [intOf]
      · go_wp2_with (go_at_call 17; refine (hW.out _ hS.out.l hS.out.b).mono ?_; rintro e w1 ⟨rfl, hb1⟩; replace hS := Lib.hid (hS.out.call hb1); clear hb1)
        go_ret
        exact ⟨rfl, hS.out.2.2⟩
end Go.Proofs.YtkmdigejohcnlaaDoor
