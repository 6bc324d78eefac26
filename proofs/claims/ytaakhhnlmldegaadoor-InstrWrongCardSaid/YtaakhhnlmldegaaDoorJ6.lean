
/- The examples of the chapter: awake returns true. -/
import Derived.Test.YtaakhhnlmldegaaDoorJ5
namespace Go.Proofs.YtaakhhnlmldegaaDoor
open Go.RowKit
set_option linter.unusedVariables false
set_option linter.unusedSimpArgs false

theorem c32 (a : Int) (h : decide (-2147483648 ≤ a) = true := by decide) (h' : decide (a ≤ 2147483647) = true := by decide) : is32 a := ⟨by simpa using h, by simpa using h'⟩
theorem r15 : (⟨15, 5, [97, 100, 100], 2, 1⟩ : IRow) ∈ tabF ++ tabO := by decide
theorem x_add : readI [97, 100, 100, 32] = (0, 0, 5) := read_behind (fn := 15) (arg := 5) (by decide +kernel)
theorem x_stl : readI [115, 116, 108, 32, 48, 51] = (0, 0, 5) := by
  have h := read_name (r := ⟨13, 0, [115, 116, 108], 1, 0⟩) (by decide) [48, 51]
  have h3 : (textL (wrap32 (tryV [48, 51])) (48 == 35) == [48, 51]) = false := by decide +kernel
  have h2 : readF [48, 51] = (0, 5) := readF_try_no (c := 48) (r := [51]) (by simpa using h3)
  rw [h2] at h
  exact h
theorem x_opr : readI [111, 112, 114, 32, 53] = (0, 0, 50) := by
  have h : namedI [111, 112, 114] = none := by decide +kernel
  rw [readI]
  have e : ([111, 112, 114, 32, 53] : List UInt8).takeWhile (fun x => x != 32) = [111, 112, 114] := by decide
  rw [e, h]
theorem x_ldc : readI [108, 100, 99, 32, 35, 70, 70, 70, 70, 70, 70, 70, 70] = (4, -1, 0) := by
  have h := read_text2 (r := ⟨4, 0, [108, 100, 99], 0, 1⟩) (by decide) (by decide) (c32 (-1)) true
  have e : textL (-1) true = [35, 70, 70, 70, 70, 70, 70, 70, 70] := by decide +kernel
  rw [e] at h
  exact h
theorem calls_eq {P : Program} {v v' : Value} {w : World} {f : Nat} {ar : Array Value} (h : Calls P f ar w (RetV v w)) (e : v = v') : Calls P f ar w (RetV v' w) := e ▸ h
set_option maxRecDepth 100000 in
set_option maxHeartbeats 1000000 in
theorem awake_yes (B : Nat) (w : World) (hL : Laid5 B w) (hB : B ≤ w.heap.size) : Calls Tryd.prog 6 #[] w (RetV (.bool true) w) := by
  have hS := Lib.hid (S5.start hL hB)
  have a1 := Lib.hid (fun w h1 h2 => calls_eq (v' := .tuple #[.int .i64 2, .int .i64 3, .bool true]) (pEffect 15 25 (by decide) B w h1 h2) (by rw [show findI 15 25 = some ⟨15, 25, [110, 111, 114, 109], 2, 3⟩ by decide +kernel]; rfl))
  have a2 := Lib.hid (fun w h1 h2 => calls_eq (v' := .tuple #[.agg #[.int .u8 4, .int .i32 (-1)], .int .i64 0]) (pRead ⟨#[108, 100, 99, 32, 35, 70, 70, 70, 70, 70, 70, 70, 70]⟩ (by decide) B w h1 h2) (by
    show readIV [108, 100, 99, 32, 35, 70, 70, 70, 70, 70, 70, 70, 70] = _
    rw [readIV, x_ldc]))
  have r1 := Lib.hid (fun w h1 h2 => reads_yes ⟨#[106, 32, 48]⟩ 0 0 (by decide) (c32 _) (by decide) (by decide +kernel) B w h1 h2)
  have r2 := Lib.hid (fun w h1 h2 => reads_yes ⟨#[97, 106, 119, 32, 45, 53]⟩ 11 (-5) (by decide) (c32 _) (by decide) (by decide +kernel) B w h1 h2)
  have r3 := Lib.hid (fun w h1 h2 => reads_yes ⟨#[97, 100, 100]⟩ 15 5 (by decide) (c32 _) (by decide) (by decide +kernel) B w h1 h2)
  have r4 := Lib.hid (fun w h1 h2 => reads_yes ⟨#[108, 100, 108, 112, 32, 45, 50, 49, 52, 55, 52, 56, 51, 54, 52, 56]⟩ 1 (-2147483648) (by decide) (c32 _) (by decide) (by decide +kernel) B w h1 h2)
  have f1 := Lib.hid (fun w h1 h2 => fails_yes ⟨#[97, 100, 100, 32]⟩ 5 (by decide) x_add B w h1 h2)
  have f2 := Lib.hid (fun w h1 h2 => fails_yes ⟨#[115, 116, 108, 32, 48, 51]⟩ 5 (by decide) x_stl B w h1 h2)
  have f3 := Lib.hid (fun w h1 h2 => fails_yes ⟨#[111, 112, 114, 32, 53]⟩ 50 (by decide) x_opr B w h1 h2)
  have m1 := Lib.hid (fun w h1 h2 => calls_eq (v' := .bool false) (pMay 15 17 (by decide) B w h1 h2) (by rw [show findI 15 17 = none by decide +kernel]; rfl))
  have hE := instEq_same 4 (-1)
  clear hL
  go_enter Tryd.func6, Tryd.ntmps6
  go_upto_region 3 with (first
    | (go_at_call 16; refine (a1.out _ hS.out.l hS.out.b).mono ?_; rintro e w1 ⟨rfl, hb1⟩; have hS1 := Lib.hid (hS.out.call hb1); clear hb1 hS)
    | (go_at_call 17; refine (a2.out _ hS1.out.l hS1.out.b).mono ?_; rintro e w2 ⟨rfl, hb2⟩; have hS2 := Lib.hid (hS1.out.call hb2); clear hb2 hS1))
  have bX := Blk.new w2 23 #[.int .u8 4, .int .i32 (-1)]
  have hS3 := Lib.hid (hS2.out.alloc (.cells #[.int .u8 4, .int .i32 (-1)] 23))
  obtain ⟨g, hg⟩ : ∃ g, w2.heap.size = g := ⟨_, rfl⟩
  rw [hg] at bX ⊢
  clear hS2 hg
  generalize w2.alloc (.cells #[.int .u8 4, .int .i32 (-1)] 23) = W at *
  go_wp2_with (first
    | (go_at_call 18; (with_reducible refine (r1.out _ hS3.out.l hS3.out.b).mono ?_); rintro e w3 ⟨rfl, hb3⟩; have bX := bX.call hb3; replace hS3 := Lib.hid (hS3.out.call hb3); clear hb3)
    | (go_at_call 18; (with_reducible refine (r2.out _ hS3.out.l hS3.out.b).mono ?_); rintro e w4 ⟨rfl, hb3⟩; have bX := bX.call hb3; replace hS3 := Lib.hid (hS3.out.call hb3); clear hb3)
    | (go_at_call 18; (with_reducible refine (r3.out _ hS3.out.l hS3.out.b).mono ?_); rintro e w5 ⟨rfl, hb3⟩; have bX := bX.call hb3; replace hS3 := Lib.hid (hS3.out.call hb3); clear hb3)
    | (go_at_call 18; (with_reducible refine (r4.out _ hS3.out.l hS3.out.b).mono ?_); rintro e w6 ⟨rfl, hb3⟩; have bX := bX.call hb3; replace hS3 := Lib.hid (hS3.out.call hb3); clear hb3)
    | (go_at_call 11; (with_reducible refine (f1.out _ hS3.out.l hS3.out.b).mono ?_); rintro e w7 ⟨rfl, hb3⟩; have bX := bX.call hb3; replace hS3 := Lib.hid (hS3.out.call hb3); clear hb3)
    | (go_at_call 11; (with_reducible refine (f2.out _ hS3.out.l hS3.out.b).mono ?_); rintro e w8 ⟨rfl, hb3⟩; have bX := bX.call hb3; replace hS3 := Lib.hid (hS3.out.call hb3); clear hb3)
    | (go_at_call 11; (with_reducible refine (f3.out _ hS3.out.l hS3.out.b).mono ?_); rintro e w9 ⟨rfl, hb3⟩; replace bX := bX.call hb3; replace hS3 := Lib.hid (hS3.out.call hb3); clear hb3; have q0 := bX.cell 0; have q1 := bX.cell 1; simp at q0 q1)
    | (go_at_call 19; (with_reducible refine (m1.out _ hS3.out.l hS3.out.b).mono ?_); rintro e w10 ⟨rfl, hb3⟩))
  go_ret
  exact ⟨rfl, (hS3.out.call hb3).k⟩
end Go.Proofs.YtaakhhnlmldegaaDoor
