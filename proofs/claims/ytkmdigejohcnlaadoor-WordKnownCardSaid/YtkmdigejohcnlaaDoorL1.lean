/- The examples of chapter 01 (works), walked. -/
import Derived.Test.YtkmdigejohcnlaaDoorW9
namespace Go.Proofs.YtkmdigejohcnlaaDoor
open Go.RowKit
set_option linter.unusedVariables false
set_option linter.unusedSimpArgs false

theorem is_yes (r : Int) (o : Bool) (w : World) : Calls Tryd.prog 46 #[.int .i32 r, .bool o, .int .i32 r, .bool o] w (RetQ (.bool true) w) := by
  go_enter Tryd.func46, Tryd.ntmps46
  go_wp2
  go_ret
  exact ⟨rfl, rfl⟩
theorem q_of {v v' : Value} {w : World} {f : Nat} {ar : Array Value} (h : Calls Tryd.prog f ar w (RetQ v w)) (e : v = v') : Calls Tryd.prog f ar w (RetQ v' w) := e ▸ h
theorem v_of {v v' : Value} {w : World} {f : Nat} {ar : Array Value} (h : Calls Tryd.prog f ar w (RetV v w)) (e : v = v') : Calls Tryd.prog f ar w (RetV v' w) := e ▸ h
abbrev tup (r : Int) (o : Bool) : Value := .tuple #[.int .i32 r, .bool o]
theorem c32 (a : Int) (h : decide (-2147483648 ≤ a) = true := by decide) (h' : decide (a ≤ 2147483647) = true := by decide) : is32 a := ⟨by simpa using h, by simpa using h'⟩
def sN10 : ByteArray := ⟨#[35, 70, 70, 70, 70, 70, 70, 70, 54]⟩
theorem text_n10 : textL (-10) true = sN10.data.toList := by kernel_rfl
theorem read_text {S : ByteArray} {v : Int} {g : Bool} (hv : is32 v) (h : textL v g = S.data.toList) : readV S.data.toList = .tuple #[.int .i32 v, .int .i64 0] := by
  rw [readV, ← h, readF_text hv]

theorem works_yes (B : Nat) (w : World) (hL : Laid B w) (hB : B ≤ w.heap.size) : Calls Tryd.prog 17 #[] w (RetV (.bool true) w) := by
  have hHL := Lib.hid hL
  clear hL
  have c1 := Lib.hid (fun w => q_of (v' := .tuple #[.int .i32 (-2147483648), .bool true]) (wAdd 2147483647 1 w (c32 _) (c32 _)) (by kernel_rfl))
  have c2 := Lib.hid (fun w => q_of (v' := .tuple #[.int .i32 0, .bool true]) (wMul 65536 65536 w (c32 _) (c32 _)) (by kernel_rfl))
  have c3 := Lib.hid (fun w => q_of (v' := .tuple #[.int .i32 (-3), .bool false]) (wDiv (-7) 2 w (c32 _) (c32 _)) (by kernel_rfl))
  have c4 := Lib.hid (fun w => q_of (v' := .tuple #[.int .i32 (-1), .bool false]) (wRem (-7) 2 w (c32 _) (c32 _)) (by kernel_rfl))
  have c5 := Lib.hid (fun w => q_of (v' := .tuple #[.int .i32 128, .bool true]) (wCword 128 128 w (c32 _) (c32 _)) (by kernel_rfl))
  have c6 := Lib.hid (fun w h1 h2 => v_of (v' := .tuple #[.int .i32 (-10), .int .i64 0]) (wRead B sN10 w (by decide) h1 h2) (read_text (c32 _) text_n10))
  have c7 := Lib.hid (fun w => q_of (v' := .int .i32 (-2147483648)) (wShl 3 31 w (c32 _) (c32 _)) (by kernel_rfl))
  have c8 := Lib.hid (fun w => q_of (v' := .int .i32 15) (wShr (-1) 28 w (c32 _) (c32 _)) (by kernel_rfl))
  have c9 := Lib.hid (fun w => q_of (v' := .int .i32 (-1)) (wXword 255 128 w (c32 _) (c32 _)) (by kernel_rfl))
  have cA := Lib.hid (fun w => q_of (v' := .bool true) (wAfter (-2147483648) 2147483647 w) (by kernel_rfl))
  have cB := Lib.hid (fun w h1 => v_of (v' := .string sN10) (wText B (-10) true w (c32 _) h1) (by rw [text_n10]; rfl))
  unfold sN10 at c6 cB
  go_enter Tryd.func17, Tryd.ntmps17
  go_wp2_with (first
    | (go_at_call 41; refine (c1.out _).mono ?_; rintro e w1 ⟨rfl, rfl⟩)
    | (go_at_call 27; refine (c2.out _).mono ?_; rintro e w1 ⟨rfl, rfl⟩)
    | (go_at_call 22; refine (c3.out _).mono ?_; rintro e w1 ⟨rfl, rfl⟩)
    | (go_at_call 23; refine (c4.out _).mono ?_; rintro e w1 ⟨rfl, rfl⟩)
    | (go_at_call 26; refine (c5.out _).mono ?_; rintro e w1 ⟨rfl, rfl⟩)
    | (go_at_call 18; refine (c6.out _ hHL.out hB).mono ?_; rintro e w1 ⟨rfl, hb1⟩; have hL1 := Lib.hid (hHL.out.call hb1 hB))
    | (go_at_call 46; refine (is_yes _ _ _).mono ?_; rintro e w1 ⟨rfl, rfl⟩)
    | (go_at_call 13; refine (c7.out _).mono ?_; rintro e w1 ⟨rfl, rfl⟩)
    | (go_at_call 15; refine (c8.out _).mono ?_; rintro e w1 ⟨rfl, rfl⟩)
    | (go_at_call 25; refine (c9.out _).mono ?_; rintro e w1 ⟨rfl, rfl⟩)
    | (go_at_call 38; refine (cA.out _).mono ?_; rintro e w1 ⟨rfl, rfl⟩)
    | (go_at_call 20; refine (cB.out _ hL1.out).mono ?_; rintro e w2 ⟨rfl, hb2⟩))
  go_ret
  exact ⟨rfl, hb1.trans (hb2.mono hb1.size)⟩
end Go.Proofs.YtkmdigejohcnlaaDoor
