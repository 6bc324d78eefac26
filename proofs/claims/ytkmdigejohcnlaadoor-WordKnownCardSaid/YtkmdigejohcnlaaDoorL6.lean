/- The law WordKnown, walked. -/
import Derived.Test.YtkmdigejohcnlaaDoorL2
namespace Go.Proofs.YtkmdigejohcnlaaDoor
open Go.RowKit
set_option linter.unusedVariables false
set_option linter.unusedSimpArgs false

def badS : List (List UInt8) := [[], [45], [45, 48], [48, 48], [43, 49], [50, 49, 52, 55, 52, 56, 51, 54, 52, 56], [45, 50, 49, 52, 55, 52, 56, 51, 54, 52, 57], [35], [35, 70, 70, 70, 70, 70, 70, 70], [35, 70, 70, 70, 70, 70, 70, 70, 70, 70], [35, 102, 102, 102, 102, 102, 102, 102, 54], [32, 49]]
theorem readF_bad (c : UInt8) (r : List UInt8) (h : (textL (wrap32 (tryV (c :: r))) (c == 35) == c :: r) = false) : readF (c :: r) = (0, 5) := readF_try_no (by simpa using h)
theorem bad_all : ∀ l ∈ badS, readF l = (0, 5) := by
  intro l hl
  simp only [badS, List.mem_cons, List.not_mem_nil, or_false] at hl
  rcases hl with rfl | rfl | rfl | rfl | rfl | rfl | rfl | rfl | rfl | rfl | rfl | rfl
  · exact readF_len (.inl (by decide))
  all_goals exact readF_bad _ _ (by decide +kernel)
def badV : Array Value := (badS.map fun l => Value.string ⟨l.toArray⟩).toArray
theorem read_bad (B k : Nat) (hk : k < badS.length) (w : World) (hL : Laid B w) (hB : B ≤ w.heap.size) : Calls Tryd.prog 18 #[.string ⟨(badS[k]).toArray⟩] w (RetV (.tuple #[.int .i32 0, .int .i64 5]) w) := by
  have h := wRead B ⟨(badS[k]).toArray⟩ w (by
    have : ∀ l ∈ badS, l.length ≤ 20 := by decide
    have := this _ (List.getElem_mem hk)
    simp [ByteArray.size]; omega) hL hB
  have e : readV (badS[k]) = .tuple #[.int .i32 0, .int .i64 5] := by rw [readV, bad_all _ (List.getElem_mem hk)]
  have e2 : readV ((⟨(badS[k]).toArray⟩ : ByteArray).data.toList) = readV (badS[k]) := by simp
  rw [e2, e] at h
  exact h
theorem arr42 (k : Nat) (hk : k < badS.length) (w : World) : (Instr.index 42 (.agg badV) (.int .i64 k)).run Tryd.prog w = .ok (.string ⟨(badS[k]).toArray⟩) w :=
  run_index_array 42 9 12 _ k _ w Tryd.underlying42 (by simp [Tryd.sizeOf9]) (by simp [Tryd.isAgg9]) (by omega) (by have : badS.length = 12 := rfl; omega) (by simp [badV, List.getElem?_eq_getElem hk])
set_option maxRecDepth 100000 in
theorem known_true (B : Nat) (w : World) (hL : Laid B w) (hB : B ≤ w.heap.size) : Calls Tryd.prog 12 #[] w (RetV (.bool true) w) := by
  have hS := Lib.hid (St.start hL hB)
  have hW := Lib.hid (fun w h1 h2 => works_yes B w h1 h2)
  have c1 := Lib.hid (fun w => q_of (v' := .tuple #[.int .i32 2147483647, .bool true]) (wSub (-2147483648) 1 w (c32 _) (c32 _)) (by kernel_rfl))
  have c2 := Lib.hid (fun w => q_of (v' := .tuple #[.int .i32 0, .bool true]) (wDiv 7 0 w (c32 _) (c32 _)) (by kernel_rfl))
  have c3 := Lib.hid (fun w => q_of (v' := .tuple #[.int .i32 0, .bool true]) (wDiv (-2147483648) (-1) w (c32 _) (c32 _)) (by kernel_rfl))
  have c4 := Lib.hid (fun w => q_of (v' := .tuple #[.int .i32 0, .bool false]) (wRem (-2147483648) (-1) w (c32 _) (c32 _)) (by kernel_rfl))
  have c5 := Lib.hid (fun w => q_of (v' := .tuple #[.int .i32 (-1), .bool true]) (wCsub0 (-1) 10 w (c32 _) (c32 _)) (by kernel_rfl))
  have c6 := Lib.hid (fun w => q_of (v' := .tuple #[.int .i32 0, .bool true]) (wCcnt1 0 5 w (c32 _) (c32 _)) (by kernel_rfl))
  have c7 := Lib.hid (fun w => q_of (v' := .tuple #[.int .i32 5, .bool false]) (wCcnt1 5 5 w (c32 _) (c32 _)) (by kernel_rfl))
  have c8 := Lib.hid (fun w => q_of (v' := .tuple #[.int .i32 (-128), .bool false]) (wCword (-128) 128 w (c32 _) (c32 _)) (by kernel_rfl))
  have c9 := Lib.hid (fun w => q_of (v' := .tuple #[.int .i32 9, .bool false]) (wCsub0 9 10 w (c32 _) (c32 _)) (by kernel_rfl))
  have d1 := Lib.hid (fun w h1 h2 => v_of (v' := .tuple #[.int .i32 (-2147483648), .int .i64 0]) (wRead B ⟨#[45, 50, 49, 52, 55, 52, 56, 51, 54, 52, 56]⟩ w (by decide) h1 h2) (read_text (g := false) (c32 _) (by decide +kernel)))
  have d2 := Lib.hid (fun w h1 h2 => v_of (v' := .tuple #[.int .i32 0, .int .i64 0]) (wRead B ⟨#[48]⟩ w (by decide) h1 h2) (read_text (g := false) (c32 _) (by decide +kernel)))
  have d3 := Lib.hid (fun w h1 h2 => v_of (v' := .tuple #[.int .i32 2147483647, .int .i64 0]) (wRead B ⟨#[35, 55, 70, 70, 70, 70, 70, 70, 70]⟩ w (by decide) h1 h2) (read_text (g := true) (c32 _) (by decide +kernel)))
  have e1 := Lib.hid (fun w => q_of (v' := .int .i32 0) (wShl 1 32 w (c32 _) (c32 _)) (by kernel_rfl))
  have e2 := Lib.hid (fun w => q_of (v' := .int .i32 0) (wShr (-1) (-1) w (c32 _) (c32 _)) (by kernel_rfl))
  have e3 := Lib.hid (fun w => q_of (v' := .bool false) (wAfter 5 5 w) (by kernel_rfl))
  have t1 : textL (-10) false = [45, 49, 48] := by decide +kernel
  have t2 : textL 0 true = [35, 48, 48, 48, 48, 48, 48, 48, 48] := by decide +kernel
  have f1 := Lib.hid (fun w h1 => v_of (v' := .string ⟨#[45, 49, 48]⟩) (wText B (-10) false w (c32 _) h1) (by rw [t1]; rfl))
  have f2 := Lib.hid (fun w h1 => v_of (v' := .string ⟨#[35, 48, 48, 48, 48, 48, 48, 48, 48]⟩) (wText B 0 true w (c32 _) h1) (by rw [t2]; rfl))
  clear t1 t2 hL hB
  go_enter Tryd.func12, Tryd.ntmps12
  go_wp2_with (first
    | (go_at_call 43; refine (c1.out _).mono ?_; rintro e w1 ⟨rfl, rfl⟩)
    | (go_at_call 22; (with_reducible refine (c2.out _).mono ?_); rintro e w1 ⟨rfl, rfl⟩)
    | (go_at_call 22; (with_reducible refine (c3.out _).mono ?_); rintro e w1 ⟨rfl, rfl⟩)
    | (go_at_call 23; refine (c4.out _).mono ?_; rintro e w1 ⟨rfl, rfl⟩)
    | (go_at_call 33; (with_reducible refine (c5.out _).mono ?_); rintro e w1 ⟨rfl, rfl⟩)
    | (go_at_call 33; (with_reducible refine (c9.out _).mono ?_); rintro e w1 ⟨rfl, rfl⟩)
    | (go_at_call 35; (with_reducible refine (c6.out _).mono ?_); rintro e w1 ⟨rfl, rfl⟩)
    | (go_at_call 35; (with_reducible refine (c7.out _).mono ?_); rintro e w1 ⟨rfl, rfl⟩)
    | (go_at_call 26; refine (c8.out _).mono ?_; rintro e w1 ⟨rfl, rfl⟩)
    | (go_at_call 46; refine (is_yes _ _ _).mono ?_; rintro e w1 ⟨rfl, rfl⟩))
  go_loopw [111] (fun i wr => ∃ k : Nat, k ≤ 12 ∧ i = .int .i64 k ∧ St B w wr) (fun i _ => 12 - (intOf i).toNat)
  case atStart => exact ⟨0, by omega, rfl, hS.out⟩
  case round =>
    clear hS
    obtain ⟨k, hk, rfl, hS'⟩ := hrel
    have hS := Lib.hid hS'
    clear hS'
    by_cases hlt : k < 12
    · have hkI : (k : Int) < 12 := by omega
      have hk2 : k < badS.length := hlt
      have hix : (Instr.index 42 (.agg #[.string ⟨#[]⟩, .string ⟨#[45]⟩, .string ⟨#[45, 48]⟩, .string ⟨#[48, 48]⟩, .string ⟨#[43, 49]⟩, .string ⟨#[50, 49, 52, 55, 52, 56, 51, 54, 52, 56]⟩, .string ⟨#[45, 50, 49, 52, 55, 52, 56, 51, 54, 52, 57]⟩, .string ⟨#[35]⟩, .string ⟨#[35, 70, 70, 70, 70, 70, 70, 70]⟩, .string ⟨#[35, 70, 70, 70, 70, 70, 70, 70, 70, 70]⟩, .string ⟨#[35, 102, 102, 102, 102, 102, 102, 102, 54]⟩, .string ⟨#[32, 49]⟩]) (.int .i64 k)).run Tryd.prog wr = .ok (.string ⟨(badS[k]).toArray⟩) wr := arr42 k hk2 wr
      have hR := Lib.hid (fun w h1 h2 => read_bad B k hk2 w h1 h2)
      generalize ({ data := (badS[k]).toArray } : ByteArray) = S at hix hR
      clear hk2
      go_wp2_with (go_at_call 18; refine (hR.out _ hS.out.l hS.out.b).mono ?_; rintro e w1 ⟨rfl, hb1⟩; replace hS := Lib.hid (hS.out.call hb1); clear hb1)
      go_roundw
      case rel => exact ⟨k + 1, by omega, by go_num, hS.out⟩
      case measure => simp [intOf]; omega
    · have hkI : ¬ (k : Int) < 12 := by omega
      go_wp2_with (first
        | (go_at_call 18; (with_reducible refine (d1.out _ hS.out.l hS.out.b).mono ?_); rintro e w1 ⟨rfl, hb1⟩; replace hS := Lib.hid (hS.out.call hb1); clear hb1)
        | (go_at_call 18; (with_reducible refine (d2.out _ hS.out.l hS.out.b).mono ?_); rintro e w1 ⟨rfl, hb1⟩; replace hS := Lib.hid (hS.out.call hb1); clear hb1)
        | (go_at_call 18; (with_reducible refine (d3.out _ hS.out.l hS.out.b).mono ?_); rintro e w1 ⟨rfl, hb1⟩; replace hS := Lib.hid (hS.out.call hb1); clear hb1)
        | (go_at_call 13; refine (e1.out _).mono ?_; rintro e w1 ⟨rfl, rfl⟩)
        | (go_at_call 15; refine (e2.out _).mono ?_; rintro e w1 ⟨rfl, rfl⟩)
        | (go_at_call 38; refine (e3.out _).mono ?_; rintro e w1 ⟨rfl, rfl⟩)
        | (go_at_call 20; (with_reducible refine (f1.out _ hS.out.l).mono ?_); rintro e w1 ⟨rfl, hb1⟩; replace hS := Lib.hid (hS.out.call hb1); clear hb1)
        | (go_at_call 20; (with_reducible refine (f2.out _ hS.out.l).mono ?_); rintro e w1 ⟨rfl, hb1⟩; replace hS := Lib.hid (hS.out.call hb1); clear hb1)
        | (go_at_call 17; refine (hW.out _ hS.out.l hS.out.b).mono ?_; rintro e w1 ⟨rfl, hb1⟩; replace hS := Lib.hid (hS.out.call hb1); clear hb1))
      go_ret
      exact ⟨rfl, hS.out.2.2⟩
end Go.Proofs.YtkmdigejohcnlaaDoor
