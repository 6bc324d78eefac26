/- Texts that belong together, joined: what each one holds is told ahead of it. -/
import Derived.Test.YtljeecocbcffcaaDoorHK14
import Derived.Test.YtljeecocbcffcaaDoorHK11
import Derived.Laws.Rows
import Derived.Great.BuildSlice
import Derived.Test.YtljeecocbcffcaaDoorHK13
import Derived.Test.YtljeecocbcffcaaDoorHK8
import Derived.Lib.SlBytesConst
import Derived.Test.YtljeecocbcffcaaDoorHK7
/- The loader's code, walked, and the document's lines and bytes. -/
namespace Go.Proofs.YtljeecocbcffcaaDoor
open Go.RowKit
set_option linter.unusedSimpArgs false
set_option linter.unusedVariables false

theorem boot_check : checkE bootL = 0 := by decide
theorem boot_len : (codeL bootL).length = 40 := by decide
theorem boot_code : codeL bootL = [184, 208, 208, 209, 18, 113, 68, 247, 19, 113, 72, 247, 114, 33, 163, 114, 193, 166, 115, 113, 116, 247, 97, 12, 21, 113, 116, 247, 21, 115, 116, 251, 97, 2, 116, 115, 35, 252, 240, 246] := by decide
theorem asmZero {ls : List LineL} {w w' : World} {e : Ending} (he : checkE ls = 0) (h : RetAsm ls w e w') :
    Below w.heap.size w w' ∧ ∃ A c g, e = .returned (.tuple #[.slice A (codeL ls).length c, .slice (some ⟨g, 0, none⟩) ls.length ls.length, .int .i64 0]) ∧ w'.ownsRow w.heap.size 5 1 (.slice A (codeL ls).length c) (codeL ls).length (bcells (codeL ls)) := by
  refine ⟨h.1, ?_⟩
  rcases h.2 with h | h
  · obtain ⟨-, A, c, g, h1, h2, -⟩ := h
    exact ⟨A, c, g, h1, h2⟩
  · exact absurd he h.1
theorem boot_ok : ∀ x ∈ bootL, LOk x := by
  intro x hx
  simp only [bootL, lnL, List.mem_cons, List.not_mem_nil, or_false] at hx
  rcases hx with rfl | rfl | rfl | rfl | rfl | rfl | rfl | rfl | rfl | rfl | rfl | rfl | rfl | rfl | rfl | rfl | rfl | rfl | rfl | rfl | rfl | rfl | rfl | rfl | rfl | rfl | rfl | rfl | rfl | rfl | rfl | rfl | rfl | rfl | rfl | rfl <;> exact ⟨by decide, by unfold is32; decide, by decide, by decide, by decide⟩
def RetL (x : Array Value) (w : World) (e : Ending) (w' : World) : Prop := e = .returned (.agg x) ∧ Below w.heap.size w w'
theorem line_size : (Tryd.prog.info? 27).map (·.size) = some 5 := by
  obtain ⟨i, hi, -, hs, -⟩ := info_parts line_info
  rw [hi]
  simp [hs]
theorem rline (f a : Int) (w : World) : Calls Tryd.prog 37 #[.int .u8 f, .int .i32 a] w (RetL #[.string ⟨#[]⟩, .int .u8 f, .int .i32 a, .string ⟨#[]⟩, .string ⟨#[]⟩] w) := by
  go_enter Tryd.func37, Tryd.ntmps37
  go_wp2
  refine bodyPost_ret (v := .agg #[.string ⟨#[]⟩, .int .u8 f, .int .i32 a, .string ⟨#[]⟩, .string ⟨#[]⟩]) (results_cell_row rfl _ _ w.heap.size _ _ (0, 0) _ rfl (heap_alloc_new _ _) Tryd.underlying27 rfl line_size) rfl ⟨rfl, (Below.refl _ _).alloc (Nat.le_refl _) _⟩
theorem rop (a : Int) (w : World) : Calls Tryd.prog 38 #[.int .i32 a] w (RetL #[.string ⟨#[]⟩, .int .u8 15, .int .i32 a, .string ⟨#[]⟩, .string ⟨#[]⟩] w) := by
  go_enter Tryd.func38, Tryd.ntmps38
  go_wp2
  refine bodyPost_ret (v := .agg #[.string ⟨#[]⟩, .int .u8 15, .int .i32 a, .string ⟨#[]⟩, .string ⟨#[]⟩]) (results_cell_row rfl _ _ w.heap.size _ _ (0, 0) _ rfl (heap_alloc_new _ _) Tryd.underlying27 rfl line_size) rfl ⟨rfl, (Below.refl _ _).alloc (Nat.le_refl _) _⟩
theorem own_lit {n : Nat} (w : World) (T : TypeId) (cs : Array Value) (hn : cs.size = n) (hm : n ≤ 1000000) : (w.alloc (.cells cs T)).ownsRow w.heap.size T 1 (.slice (some ⟨w.heap.size, 0, none⟩) n n) n cs.toList := by
  refine ⟨by simpa using hn, .inr ⟨w.heap.size, n, cs, rfl, Nat.le_refl _, Blk.new w T cs, Nat.le_refl _, by unfold maxLen; omega, by omega, ?_⟩⟩
  rw [List.take_of_length_le (by simp; omega)]
theorem bcells_one (l : List UInt8) : ∀ u ∈ bcells l, u.oneCell' = true := by
  intro u hu
  obtain ⟨z, -, rfl⟩ := List.mem_map.1 hu
  rfl
theorem RetLn.lit' {n : Nat} {w w1 : World} (cs : Array Value) (h1 : Below w.heap.size w w1) (hn : cs.size = n * 5) (hm : n ≤ 1000000) : RetLn n cs.toList w (.returned (.slice (some ⟨w1.heap.size, 0, none⟩) n n)) (w1.alloc (.cells cs 27)) := by
  obtain ⟨A, c, h2, h3, h4⟩ := RetLn.lit (w := w1) cs rfl hn hm
  exact ⟨A, c, h2, h3.weak h1.size, h1.trans (h4.mono h1.size)⟩
set_option maxRecDepth 100000 in
set_option maxHeartbeats 8000000 in
theorem rLines38 (w : World) : Calls Tryd.prog 12 #[] w (RetLn 36 (linesL bootL) w) := by
  obtain ⟨i0, hi0, hz0, hz1, hz2⟩ := info_parts line_info
  have K0 := Lib.hid (Below.refl w.heap.size w)
  go_enter Tryd.func12, Tryd.ntmps12
  go_upto_region 1 with (fail)
  have K := K0
  clear K0
  go_wp2_with (first
    | (go_at_call 37; refine (rline _ _ _).mono ?_; rintro e w1 ⟨rfl, hb1⟩
       have K := Lib.hid (K.out.trans (hb1.mono K.out.size))
       clear hb1)
    | (go_at_call 38; refine (rop _ _).mono ?_; rintro e w1 ⟨rfl, hb1⟩
       have K := Lib.hid (K.out.trans (hb1.mono K.out.size))
       clear hb1))
  refine wp_buildSlice 24 27 36 _ rfl (linesL bootL).toArray i0 _ Tryd.underlying24 hi0 hz0 (by rw [hz1]; decide) (by rw [hz1]; decide) ?hf ?h
  case hf =>
    rw [hz1]
    kernel_rfl
  case h =>
    rename_i hk
    refine hk _ _ ?_
    clear hk hi0 hz0 hz1 hz2
    go_wp2
    go_ret
    exact RetLn.lit' (n := 36) (linesL bootL).toArray K.out (by decide) (by decide)
/-- What the document's bytes are. -/
def bootB : List UInt8 := 40 :: codeL bootL
theorem rBoot38 (w : World) : Calls Tryd.prog 13 #[] w (RetRow 5 1 41 (bcells bootB) w) := by
  have hB : bcells bootB = bcells (40 :: [184, 208, 208, 209, 18, 113, 68, 247, 19, 113, 72, 247, 114, 33, 163, 114, 193, 166, 115, 113, 116, 247, 97, 12, 21, 113, 116, 247, 21, 115, 116, 251, 97, 2, 116, 115, 35, 252, 240, 246]) := by rw [bootB, boot_code]
  rw [hB]
  go_enter Tryd.func13, Tryd.ntmps13
  go_wp2
  go_ret
  exact RetRow.lit (bcells (40 :: [184, 208, 208, 209, 18, 113, 68, 247, 19, 113, 72, 247, 114, 33, 163, 114, 193, 166, 115, 113, 116, 247, 97, 12, 21, 113, 116, 247, 21, 115, 116, 251, 97, 2, 116, 115, 35, 252, 240, 246])).toArray rfl rfl (by decide)
set_option maxHeartbeats 2000000 in
theorem lBoot (B : Nat) (w : World) (hL : LaidW B w) (hB : B ≤ w.heap.size) : Calls Tryd.prog 10 #[] w (RetRow 5 1 41 (bcells bootB) w) := by
  obtain ⟨i0, hi0, hz0, hz1, hz2⟩ := info_parts byte_info
  have HL := Lib.hid hL
  have HB := Lib.hid hB
  clear hL
  go_enter Tryd.func10, Tryd.ntmps10
  go_upto_region 2 with (first
    | (go_at_call 11; refine (lLines w).mono ?_; rintro e w1 ⟨A1, c1, rfl, ho1, hb1⟩
       have O1 := Lib.hid ho1
       have K1 := Lib.hid hb1
       clear ho1 hb1)
    | (go_at_call 14
       refine (pAssembleW bootL boot_ok (by decide) A1 c1 B w1 (Reads.of_own (O1.out)) (HL.out.call K1.out HB.out) (Nat.le_trans HB.out K1.out.size)).mono ?_
       intro e w2 h2
       obtain ⟨hb2, A2, c2, g2, rfl, ho2⟩ := asmZero boot_check h2
       have K2 := Lib.hid (K1.out.trans (hb2.mono K1.out.size))
       have O2 := Lib.hid ho2
       clear h2 hb2 ho2))
  generalize hcl : codeL bootL = cl at *
  have hlen : cl.length = 40 := by rw [← hcl]; exact boot_len
  have O3 : Hid (w2.ownsRow w1.heap.size 5 1 (.slice A2 40 c2) 40 (bcells cl)) := Lib.hid (by have := O2.out; rwa [hlen] at this)
  have HW12 := Lib.hid K1.out.size
  have HW2 := Lib.hid K2.out.size
  rw [hlen]
  have HCL := Lib.hid hcl
  clear hcl hlen O2 HL O1 K1
  generalize bootL.length = bn at *
  have HN : Hid ((w2.alloc (.cells #[.int .u8 40] 5)).ownsRow w.heap.size 5 1 (.slice (some ⟨w2.heap.size, 0, none⟩) 1 1) 1 [.int .u8 40]) := Lib.hid ((own_lit w2 5 #[.int .u8 40] rfl (by decide)).weak HW2.out)
  have R3 := Lib.hid (((Reads.of_own O3.out).below ((Below.refl w2.heap.size w2).alloc (Nat.le_refl _) (.cells #[.int .u8 40] 5))).more (Below.alloc (Below.refl w2.heap.size w2) (Nat.le_refl _) (.cells #[.int .u8 40] 5)).size)
  have K3 := Lib.hid (K2.out.alloc HW2.out (.cells #[.int .u8 40] 5))
  go_wp2_with (first
    | (at_builtin; go_loud (refine wpList_append_any _ rfl (.tmp 13) (.tmp 14) 22 rfl w.heap.size 5 i0 _ 1 1 Tryd.underlying22 hi0 hz0 hz1 hz2 rfl (by decide) _ _ _ rfl HN.out _ A2 40 c2 (bcells cl) rfl R3.out (bcells_one cl) (by unfold maxLen; omega) (by omega) K3.out.size ?_); intro v' w6 hown6 hg6 hat6
       have K6 := Lib.hid (K3.out.grown hg6 K3.out.size (fun g e => (HN.out.lt g e).1))
       have O6 := Lib.hid hown6
       clear hown6 hg6 hat6))
  go_ret
  refine ⟨v', rfl, ?_, K6.out⟩
  rw [bootB, HCL.out]
  exact O6.out
end Go.Proofs.YtljeecocbcffcaaDoor

/- head of the laws on the loader. -/
namespace Go.Proofs.YtljeecocbcffcaaDoor
open Go.RowKit
set_option linter.unusedSimpArgs false
set_option linter.unusedVariables false

/-- The command of the head, in a block of its own. -/
def headV (g : Nat) : CmdV := ⟨1, 16, 0, some ⟨g, 0, none⟩, 1, [7]⟩
def headW (w : World) : World := (w.alloc (.cells #[.int .u8 7] 5)).alloc (.cells (headV w.heap.size).cells 38)
def headB : List UInt8 := [1, 0, 0, 0, 16, 0, 0, 0, 1, 0, 0, 0, 7]
def headG : List UInt8 := [0, 0, 0, 0, 8, 0, 0, 128, 0, 2, 0, 128, 153]
theorem head_err (g : Nat) : errC (vals [headV g]) = 0 := by show errC [⟨1, 16, 0, [7]⟩] = 0; decide
theorem head_put (g : Nat) : putR (vals [headV g]) = headB := by show putR [⟨1, 16, 0, [7]⟩] = headB; decide
theorem head_get : getB headG = some ([⟨0, -2147483640, -2147483136, []⟩], [153]) := by decide
theorem own_litS {n : Nat} (w : World) (T e : Nat) (cs : Array Value) (hn : cs.size = n * e) (hm : n ≤ 1000000) (he : 0 < e := by decide) : (w.alloc (.cells cs T)).ownsRow w.heap.size T e (.slice (some ⟨w.heap.size, 0, none⟩) n n) n cs.toList := by
  refine ⟨by simpa using hn, .inr ⟨w.heap.size, n, cs, rfl, Nat.le_refl _, Blk.new w T cs, Nat.le_refl _, by unfold maxLen; omega, by omega, ?_⟩⟩
  rw [List.take_of_length_le (by simp; omega)]
theorem head_put_call (w : World) : Calls Tryd.prog 19 #[.slice (some ⟨w.heap.size + 1, 0, none⟩) 1 1] (headW w) (fun e w' => Below (headW w).heap.size (headW w) w' ∧ ∃ A c, e = .returned (.tuple #[.slice A 13 c, .int .i64 0]) ∧ w'.ownsRow (headW w).heap.size 5 1 (.slice A 13 c) 13 (bcells headB)) := by
  have hz : (w.alloc (.cells #[.int .u8 7] 5)).heap.size = w.heap.size + 1 := by simp
  have h1 := own_lit w 5 #[.int .u8 7] rfl (by decide)
  have b1 := own_litS (w.alloc (.cells #[.int .u8 7] 5)) 38 4 (headV w.heap.size).cells (n := 1) rfl (by decide)
  rw [hz] at b1
  have h2 : Reads (headW w) (headW w).heap.size 1 (some ⟨w.heap.size, 0, none⟩) 1 (bcells [7]) := Reads.of_own (h1.alloc (.cells (headV w.heap.size).cells 38))
  refine (lPut [headV w.heap.size] (by show 1 ≤ 1000000; decide) (by intro x hx; simp at hx; subst hx; show 1 ≤ 140737488355328; decide) (some ⟨w.heap.size + 1, 0, none⟩) 1 (headW w) (Reads.of_own b1) ?_).mono ?_
  · intro x hx
    simp at hx
    subst hx
    exact ⟨by show 1 ≤ 255; decide, by show word32 16; unfold word32; decide, by show word32 0; unfold word32; decide, h2⟩
  · rintro e w' ⟨hb, v, rfl, ho⟩
    rw [head_err, head_put] at *
    obtain ⟨A, c, rfl⟩ := own_form ho
    exact ⟨hb, A, c, rfl, ho⟩
theorem reads_marked (w : World) (C : Array Value) (T : TypeId) (fr : Nat × Nat) (n : Nat) (hn : C.size = n) : Reads (w.alloc (.cells C T fr)) (w.alloc (.cells C T fr)).heap.size 1 (some ⟨w.heap.size, 0, none⟩) n C.toList := by
  refine ⟨by simpa using hn, fun h0 => ⟨⟨w.heap.size, 0, none⟩, rfl, by simp, fun j v hj => ?_⟩⟩
  have hadd : (⟨w.heap.size, 0, none⟩ : Addr).add j = ⟨w.heap.size, j, none⟩ := by unfold Addr.add; split <;> simp_all
  rw [hadd, cell_of_row _ _ j C T fr (heap_alloc_new w _)]
  simpa using hj
theorem head_get_call (w : World) : Calls Tryd.prog 21 #[.slice (some ⟨w.heap.size, 0, none⟩) 13 13] (w.alloc (.cells (bcells headG).toArray 5 (13, 14))) (fun e w' => Below (w.alloc (.cells (bcells headG).toArray 5 (13, 14))).heap.size (w.alloc (.cells (bcells headG).toArray 5 (13, 14))) w' ∧
    ∃ x A c A2 c2, e = .returned (.tuple #[.slice A 1 c, .slice A2 1 c2, .int .i64 0]) ∧ CmdV.val x = ⟨0, -2147483640, -2147483136, []⟩ ∧ OwnL w' (w.alloc (.cells (bcells headG).toArray 5 (13, 14))).heap.size (.slice A 1 c) [x] ∧ w'.ownsRow (w.alloc (.cells (bcells headG).toArray 5 (13, 14))).heap.size 5 1 (.slice A2 1 c2) 1 (bcells [153])) := by
  refine (lGet headG (by decide) (some ⟨w.heap.size, 0, none⟩) 13 (by decide) _ (reads_marked w (bcells headG).toArray 5 (13, 14) 13 (by decide))).mono ?_
  intro e w' h
  rw [head_get] at h
  obtain ⟨hb, v, u, ls, rfl, hv, hl, ho⟩ := h
  cases ls with
  | nil => cases hv
  | cons x l =>
    cases l with
    | cons y l => exact absurd (congrArg List.length hv) (by simp [vals])
    | nil =>
      obtain ⟨A, c, rfl⟩ := own_form hl.1
      obtain ⟨A2, c2, rfl⟩ := own_form ho
      exact ⟨hb, x, A, c, A2, c2, rfl, by simpa [vals] using hv, hl, ho⟩
set_option maxRecDepth 100000 in
set_option maxHeartbeats 8000000 in
theorem lHead38 (B : Nat) (w : World) (hL : LaidW B w) (hB : B ≤ w.heap.size) :
    Calls Tryd.prog 15 #[] w (RetV (.bool true) w) := by
  have HL := Lib.hid hL
  have HB := Lib.hid hB
  have HP := Lib.hid (head_put_call w)
  have HG := Lib.hid (fun w1 => head_get_call w1)
  have HWs : (headW w).heap.size = w.heap.size + 1 + 1 := by simp [headW]
  have HBW := Lib.hid (((Below.refl w.heap.size w).alloc (Nat.le_refl _) (.cells #[.int .u8 7] 5)).alloc (by simp) (.cells (headV w.heap.size).cells 38))
  have HWS := Lib.hid HWs
  clear hL HWs
  go_enter Tryd.func15, Tryd.ntmps15
  go_upto_region 2 with (first
    | (go_at_call 19; go_loud (refine HP.out.mono ?_); rintro e w1 ⟨hb1, A1, c1, rfl, ho1⟩
       have K1 := Lib.hid (HBW.out.trans (hb1.mono (by rw [HWS.out]; omega)))
       have O1 := Lib.hid (ho1.weak (by rw [HWS.out]; omega : w.heap.size ≤ _))
       clear hb1 ho1))
  have HG1 := Lib.hid (HG.out w1)
  have O2' := Lib.hid (O1.out.alloc (.cells (bcells headG).toArray 5 (13, 14)))
  have K2' := Lib.hid (K1.out.alloc K1.out.size (.cells (bcells headG).toArray 5 (13, 14)))
  have hs1 : (w1.alloc (.cells (bcells headG).toArray 5 (13, 14))).heap.size = w1.heap.size + 1 := by simp
  have HS1 := Lib.hid hs1
  have hcv : (convert 22 22 (.slice (some ⟨w1.heap.size, 0, none⟩) 13 13)).run Tryd.prog (w1.alloc (.cells (bcells headG).toArray 5)) = .ok (.slice (some ⟨w1.heap.size, 0, none⟩) 13 13) (w1.alloc (.cells (bcells headG).toArray 5 (13, 14))) := Lib.run_convert_bytes_const w1 22 5 (bcells headG).toArray 13 13 Tryd.underlying22 Tryd.underlying5
  rw [show (bcells headG).toArray = #[.int .u8 0, .int .u8 0, .int .u8 0, .int .u8 0, .int .u8 8, .int .u8 0, .int .u8 0, .int .u8 128, .int .u8 0, .int .u8 2, .int .u8 0, .int .u8 128, .int .u8 153] from rfl] at hcv
  have HW1 := Lib.hid K1.out.size
  clear HG HBW HWS HP O1 K1 hs1
  go_upto_region 3 with (first
    | (go_at_call 21; go_loud (refine HG1.out.mono ?_); rintro e w2 ⟨hb2, x, A2, c2, A3, c3, rfl, hx, ho2, ho3⟩
       have K2 := Lib.hid (K2'.out.trans (hb2.mono (by rw [HS1.out]; have := HW1.out; omega)))
       have O2 := Lib.hid (O2'.out.keep hb2 (by rw [HS1.out]; omega))
       have OX := Lib.hid ho2
       have OR := Lib.hid ho3
       have HX := Lib.hid hx
       clear hb2 ho2 ho3 hx HG1 O2' K2'))
  have e1 : x.at_ = -2147483640 := congrArg CmdL.at_ HX.out
  have e2 : x.dst = -2147483136 := congrArg CmdL.dst HX.out
  have hl2 := OX.out.1
  obtain ⟨g, cap, hv, hBg, hg⟩ := ownsRow_pos hl2 (by show 0 < 1; decide)
  injection hv with ea eb ec
  subst ea ec
  have q1 := hl2.cellAt 1 (by show 1 < 4; decide)
  have q2 := hl2.cellAt 2 (by show 2 < 4; decide)
  have q1' : w2.cell? ⟨g, 1, none⟩ = some (.int .i32 (-2147483640)) := q1.trans (by rw [← e1]; rfl)
  have q2' : w2.cell? ⟨g, 2, none⟩ = some (.int .i32 (-2147483136)) := q2.trans (by rw [← e2]; rfl)
  have cv1 : (convert 22 9 (.slice A1 13 c1)).run Tryd.prog w2 = .ok (.string ⟨#[1, 0, 0, 0, 16, 0, 0, 0, 1, 0, 0, 0, 7]⟩) w2 := conv_back (Reads.of_own O2.out)
  have cv2 : (convert 22 9 (.slice A3 1 c3)).run Tryd.prog w2 = .ok (.string ⟨#[153]⟩) w2 := conv_back (Reads.of_own OR.out)
  have HBt := Lib.hid (lBoot B w2 (HL.out.call K2.out HB.out) (Nat.le_trans HB.out K2.out.size))
  clear eb q1 q2 e1 e2 hl2 hBg hg hcv HX OX OR O2 HL
  go_wp2_with (first
    | (go_at_call 10; go_loud (refine HBt.out.mono ?_); rintro e w3 ⟨v, rfl, ho, hb3⟩
       obtain ⟨A5, c5, rfl⟩ := own_form ho
       have K3 := Lib.hid (K2.out.trans (hb3.mono K2.out.size))
       clear ho hb3))
  go_ret
  exact ⟨rfl, K3.out⟩
end Go.Proofs.YtljeecocbcffcaaDoor

/- great of the laws on the loader. -/
namespace Go.Proofs.YtljeecocbcffcaaDoor
open Go.RowKit
set_option linter.unusedSimpArgs false
set_option linter.unusedVariables false

/-- How many bytes commands hold together. -/
def totV : List CmdV → Nat
  | [] => 0
  | x :: l => x.bytes.length + totV l
theorem totV_append (a b : List CmdV) : totV (a ++ b) = totV a + totV b := by
  induction a with
  | nil => simp [totV]
  | cons x a ih => rw [List.cons_append, totV, totV, ih]; omega
theorem totV_snoc {l : List CmdV} {k : Nat} {x : CmdV} (h : l[k]? = some x) : totV (l.take (k + 1)) = totV (l.take k) + x.bytes.length := by
  rw [List.take_add_one, h, Option.toList_some, totV_append, totV, totV]
  omega
/-- Whether commands are too many or too great for the laws. -/
def greatC (l : List CmdV) : Bool := decide (100 < l.length) || (l.any fun x => decide (70000 < x.bytes.length)) || decide (3000000 < totV l)
theorem greatC_big {l : List CmdV} {k : Nat} {x : CmdV} (h : l[k]? = some x) (hx : 70000 < x.bytes.length) : greatC l = true := by
  have : (l.any fun x => decide (70000 < x.bytes.length)) = true := List.any_eq_true.2 ⟨x, List.mem_of_getElem? h, by simpa using hx⟩
  simp [greatC, this]
theorem greatC_end {l : List CmdV} (h : ∀ x ∈ l, x.bytes.length ≤ 70000) : greatC l = (decide (100 < l.length) || decide (3000000 < totV l)) := by
  have : (l.any fun x => decide (70000 < x.bytes.length)) = false := by
    rw [List.any_eq_false]
    intro x hx
    simpa using h x hx
  simp [greatC, this]
theorem greatC_many {l : List CmdV} (h : 100 < l.length) : greatC l = true := by simp [greatC, h]
/-- What the commands that are not great keep. -/
theorem greatC_not {l : List CmdV} (h : greatC l = false) : l.length ≤ 100 ∧ (∀ x ∈ l, x.bytes.length ≤ 70000) ∧ totV l ≤ 3000000 := by
  simp only [greatC, Bool.or_eq_false_iff, decide_eq_false_iff_not, Nat.not_lt] at h
  refine ⟨h.1.1, fun x hx => ?_, h.2⟩
  have := List.any_eq_false.1 h.1.2 x hx
  simpa using this
set_option maxHeartbeats 4000000 in
theorem lGreat (l : List CmdV) (hn : l.length ≤ 140737488355328) (A : Option Addr) (c : Nat) (w : World) (hr : Reads w w.heap.size 4 A l.length (cmdsV l)) (hb : ∀ x ∈ l, x.bytes.length ≤ 140737488355328) :
    Calls Tryd.prog 16 #[.slice A (l.length : Nat) c] w (RetV (.bool (greatC l)) w) := by
  have HR := Lib.hid hr
  have HBY := Lib.hid hb
  have HG := Lib.hid (fun (k : Nat) (x : CmdV) (hx : l[k]? = some x) => totV_snoc hx)
  have HB := Lib.hid (fun (k : Nat) (x : CmdV) (hx : l[k]? = some x) (h : 70000 < x.bytes.length) => greatC_big hx h)
  have HE := Lib.hid (fun (h : ∀ x ∈ l, x.bytes.length ≤ 70000) => greatC_end h)
  have HM := Lib.hid (fun (h : 100 < l.length) => greatC_many h)
  obtain ⟨n, hnn⟩ : ∃ n, l.length = n := ⟨_, rfl⟩
  rw [hnn] at HR hn HE HM ⊢
  have HNN := Lib.hid hnn
  generalize greatC l = G at *
  clear hr hb hnn
  go_enter Tryd.func16, Tryd.ntmps16
  go_wp2
  go_loopw [3, 4] (fun s i wr => ∃ k : Nat, k ≤ n ∧ k ≤ 101 ∧ i = .int .i64 k ∧ s = .int .i64 (totV (l.take k) : Nat) ∧ Hid (totV (l.take k) ≤ 70000 * k) ∧ Hid (∀ x ∈ l.take k, x.bytes.length ≤ 70000) ∧ Hid (Below w.heap.size w wr)) (fun _ i _ => n - (intOf i).toNat)
  case atStart => exact ⟨0, Nat.zero_le _, by omega, rfl, by simp [totV], Lib.hid (by simp [totV]), Lib.hid (by simp), Lib.hid (Below.refl _ _)⟩
  case round =>
    obtain ⟨k, hk, hk1, rfl, rfl, HS, HA, K⟩ := hrel
    by_cases hlt : k < n
    · have hltI : (k : Int) < n := by omega
      by_cases h100 : k ≤ 100
      · have h100I : (k : Int) ≤ 100 := by omega
        obtain ⟨b, off, x, rfl, hb, hx, c0, c1, c2, c3⟩ := cmds_at (HR.out.below K.out) hlt
        have hbl := HBY.out x (List.mem_of_getElem? hx)
        have HX := Lib.hid hx
        have HSN := Lib.hid (HG.out k x hx)
        have hs := HS.out
        clear hx
        by_cases hbig : 70000 < x.bytes.length
        · have hbigI : (70000 : Int) < (x.bytes.length : Nat) := by omega
          go_wp2
          go_ret
          exact ⟨by rw [HB.out k x HX.out hbig]; rfl, K.out⟩
        · have hbigI : ¬ (70000 : Int) < (x.bytes.length : Nat) := by omega
          generalize totV (l.take k) = s0 at *
          go_wp2
          go_roundw
          case rel =>
            refine ⟨k + 1, by omega, by omega, by go_num, ?_, Lib.hid ?_, Lib.hid ?_, K⟩
            · rw [HSN.out]; go_num
            · rw [HSN.out]; omega
            · intro y hy
              rw [List.take_add_one, HX.out] at hy
              rcases List.mem_append.1 hy with hy | hy
              · exact HA.out y hy
              · simp at hy; subst hy; omega
          case measure => simp [intOf]; omega
      · have h100I : ¬ (k : Int) ≤ 100 := by omega
        have hn100 : (100 : Int) < n := by omega
        generalize totV (l.take k) = s0 at *
        go_wp2
        go_ret
        exact ⟨by rw [HM.out (by omega)]; rfl, K.out⟩
    · have hltI : ¬ (k : Int) < n := by omega
      obtain rfl : n = k := by omega
      rw [List.take_of_length_le (by rw [HNN.out]; omega)] at HA HS
      rw [List.take_of_length_le (by rw [HNN.out]; omega)]
      have he := HE.out HA.out
      have hs := HS.out
      generalize totV l = s0 at *
      have hn100 : ¬ (100 : Int) < n ∨ (100 : Int) < n := by omega
      rcases hn100 with hn100 | hn100
      · rw [decide_eq_false (by omega), Bool.false_or] at he
        subst he
        by_cases h3 : 3000000 < s0
        · have h3I : (3000000 : Int) < s0 := by omega
          rw [decide_eq_true h3]
          go_wp2
          go_ret
          exact ⟨rfl, K.out⟩
        · have h3I : ¬ (3000000 : Int) < s0 := by omega
          rw [decide_eq_false h3]
          go_wp2
          go_ret
          exact ⟨rfl, K.out⟩
      · rw [decide_eq_true (by omega), Bool.true_or] at he
        subst he
        go_wp2
        go_ret
        exact ⟨rfl, K.out⟩
end Go.Proofs.YtljeecocbcffcaaDoor

/- LoaderAgain, walked. -/
namespace Go.Proofs.YtljeecocbcffcaaDoor
open Go.RowKit
set_option linter.unusedSimpArgs false
set_option linter.unusedVariables false

theorem putC_ge (l : List CmdL) : 12 * l.length ≤ (putC l).length := by
  induction l with
  | nil => simp [putC]
  | cons c l ih => simp only [putC, List.flatMap_cons, List.length_append, oneC_len, List.length_cons] at *; omega
theorem putC_part {l : List CmdL} {c : CmdL} (h : c ∈ l) : c.bytes.length ≤ (putC l).length := by
  induction l with
  | nil => cases h
  | cons d l ih =>
    simp only [putC, List.flatMap_cons, List.length_append, oneC_len] at *
    rcases List.mem_cons.1 h with rfl | h
    · omega
    · have := ih h; omega
theorem strB_cat (a b : List UInt8) : strB a ++ strB b = strB (a ++ b) := by
  apply ByteArray.ext
  simp [strB, ByteArray.data_append]
/-- What Get's answer puts again. -/
theorem again_put {b : List UInt8} (hb : b.length ≤ 1000000) {ls : List CmdV} {r : List UInt8} (h : getB b = some (vals ls, r)) :
    errC (vals ls) = 0 ∧ putR (vals ls) ++ r = b ∧ ls.length ≤ 1000000 ∧ ∀ x ∈ ls, x.bytes.length ≤ 140737488355328 := by
  obtain ⟨h1, h2⟩ := getC_back _ _ _ _ h
  have hlen : (putC (vals ls)).length ≤ 1000000 := by
    have := congrArg List.length h1
    rw [List.length_append] at this
    omega
  have he : errC (vals ls) = 0 := by
    unfold errC
    rw [if_pos (List.all_eq_true.2 fun c hc => (h2 c hc).1), if_pos (by rw [sizeC_len]; omega)]
  refine ⟨he, by rw [putR, if_pos he]; exact h1, ?_, fun x hx => ?_⟩
  · have := putC_ge (vals ls)
    rw [vals_len] at this
    omega
  · have := putC_part (l := vals ls) (c := x.val) (List.mem_map.2 ⟨x, hx, rfl⟩)
    have hbe : x.val.bytes.length = x.bytes.length := rfl
    omega
set_option maxRecDepth 100000 in
set_option maxHeartbeats 4000000 in
theorem lAgain (b : List UInt8) (A : Option Addr) (c : Nat) (hc : b.length ≤ c) (B : Nat) (w : World) (hr : Reads w w.heap.size 1 A b.length (bcells b)) (hL : LaidW B w) (hB : B ≤ w.heap.size) :
    Calls Tryd.prog 7 #[.slice A (b.length : Nat) c] w (RetV (.bool true) w) := by
  have HL := Lib.hid hL
  have HB := Lib.hid hB
  have HH := Lib.hid (lHead38 B w hL hB)
  have HGt := Lib.hid (fun h => lGet b h A c hc w hr)
  have HAG := Lib.hid (fun (h : b.length ≤ 1000000) (ls : List CmdV) (r : List UInt8) (hg : getB b = some (vals ls, r)) => again_put h hg)
  have HR := Lib.hid hr
  obtain ⟨RT, hRT⟩ : ∃ RT, getB b = RT := ⟨_, rfl⟩
  rw [hRT] at HGt
  have HRT := Lib.hid hRT
  obtain ⟨n, hnn⟩ : ∃ n, b.length = n := ⟨_, rfl⟩
  rw [hnn] at HR HGt HAG ⊢
  have HNN := Lib.hid hnn
  clear hr hL hc hnn hRT
  go_enter Tryd.func7, Tryd.ntmps7
  by_cases hbig : 1000000 < n
  · have hbigI : (1000000 : Int) < n := by omega
    go_wp2_with (go_at_call 15; (with_reducible refine HH.out.mono ?_); rintro e w1 ⟨rfl, hb1⟩
                 have K1 := Lib.hid hb1)
    go_ret
    exact ⟨rfl, K1.out⟩
  · have hbigI : ¬ (1000000 : Int) < n := by omega
    have HC := Lib.hid (HGt.out (by omega))
    clear HGt HH
    cases RT with
    | none =>
      go_wp2_with (first
        | (go_at_call 21; (with_reducible refine HC.out.mono ?_); rintro e w1 ⟨hb1, rfl⟩
           have K1 := Lib.hid hb1
           have HH := Lib.hid (lHead38 B w1 (HL.out.call hb1 HB.out) (Nat.le_trans HB.out hb1.size))
           clear hb1)
        | (go_at_call 15; (with_reducible refine HH.out.mono ?_); rintro e w2 ⟨rfl, hb2⟩
           have K2 := Lib.hid (K1.out.trans (hb2.mono K1.out.size))
           clear hb2))
      go_ret
      exact ⟨rfl, K2.out⟩
    | some p =>
      obtain ⟨L, r⟩ := p
      go_upto_region 4 with (first
        | (go_at_call 21; (with_reducible refine HC.out.mono ?_); rintro e w1 ⟨hb1, v, u, ls, rfl, hvl, hol, hor⟩
           have hvl2 : vals ls = L := hvl
           subst hvl2
           obtain ⟨A1, c1, rfl⟩ := own_form hol.1
           obtain ⟨A2, c2, rfl⟩ := own_form hor
           have K1 := Lib.hid hb1
           have OL := Lib.hid hol
           have OR := Lib.hid hor
           have RB := Lib.hid ((HR.out.below hb1).more hb1.size)
           have AG := Lib.hid (HAG.out (by omega) ls r HRT.out)
           have HPt := Lib.hid (lPut ls AG.out.2.2.1 AG.out.2.2.2 A1 c1 w1 (hol.reads rfl).1 (hol.reads rfl).2)
           clear hb1 hol hor hvl))
      have hcat0 : strB (putR (vals ls)) ++ strB r = strB b := by rw [strB_cat, AG.out.2.1]
      have hsz0 : (strB (putR (vals ls))).size + (strB r).size ≤ 1000000 := by
        have := congrArg List.length AG.out.2.1
        rw [List.length_append, HNN.out] at this
        show (putR (vals ls)).length + r.length ≤ 1000000
        omega
      have HCAT := Lib.hid hcat0
      have HSZ := Lib.hid hsz0
      clear hcat0 hsz0 HC HR HAG
      go_upto_region 7 with (first
        | (go_at_call 19; (with_reducible refine HPt.out.mono ?_); rintro e w2 ⟨hb2, v, he, ho⟩
           rw [AG.out.1] at he
           subst he
           obtain ⟨A3, c3, rfl⟩ := own_form ho
           have K2 := Lib.hid (K1.out.trans (hb2.mono K1.out.size))
           have cv1 : (convert 22 9 (.slice A3 (putR (vals ls)).length c3)).run Tryd.prog w2 = .ok (.string (strB (putR (vals ls)))) w2 := conv_back (Reads.of_own ho)
           have cv2 : (convert 22 9 (.slice A2 r.length c2)).run Tryd.prog w2 = .ok (.string (strB r)) w2 := conv_back ((Reads.of_own OR.out).below hb2)
           have cv3 : (convert 22 9 (.slice A n c)).run Tryd.prog w2 = .ok (.string (strB b)) w2 := conv_back (RB.out.below hb2)
           have HH := Lib.hid (lHead38 B w2 (HL.out.call K2.out HB.out) (Nat.le_trans HB.out K2.out.size))
           clear hb2 ho))
      generalize strB (putR (vals ls)) = X at *
      generalize strB r = Y at *
      generalize strB b = Z at *
      have hcat := HCAT.out
      have hsz := HSZ.out
      have hno : ¬ 9223372036854775807 < X.size + Y.size := by omega
      go_wp2_with (go_at_call 15; (with_reducible refine HH.out.mono ?_); rintro e w3 ⟨rfl, hb3⟩
                   have K3 := Lib.hid (K2.out.trans (hb3.mono K2.out.size))
                   clear hb3)
      go_ret
      exact ⟨rfl, K3.out⟩
end Go.Proofs.YtljeecocbcffcaaDoor

/- What the rows' condition on package-level variables gives the walks of chapter 38. -/
namespace Go.Proofs.YtljeecocbcffcaaDoor
open Go.ChangeShapes Go.WideShapes Go.ChangeAt Go.RowKit

abbrev laidWL : List (String × DataW Unit) := Rows.loaderAgainRow.laid
theorem laidW_shaped (os : Os) : (World.laidAll Tryd.prog os laidWL).Shaped Tryd.prog := World.shaped_of_ZipB (by kernel_rfl) (by kernel_rfl)
theorem laidW_met (os : Os) (args : Array Value) : laidMetH Tryd.prog laidWL ((World.laidAll Tryd.prog os laidWL).forCall (fun _ _ => 0) ⟨#[], args, []⟩).memory := by
  rw [MakeChecks.laidMetH_plain _ _ _ (by kernel_rfl)]
  exact laidMet_laidAll _ (by kernel_rfl) (by kernel_rfl)
set_option maxRecDepth 100000 in
theorem laidW_of {W : World} (h : laidMetH Tryd.prog laidWL W) : LaidW W.heap.size W := by
  rw [MakeChecks.laidMetH_plain _ _ _ (by kernel_rfl)] at h
  have h6 := h.tail
  have h7 := h6.tail
  have hA : Lib.TabIs Tryd.prog W "strings.asciiSpace" .u8 Lib.asciiSpaceTab :=
    Lib.tabIs_of_head gA (t := 157) (e := 5) (n := 256) (by kernel_rfl) Tryd.underlying157 Tryd.underlying5 (by kernel_rfl) (by kernel_rfl) h6
  have hF := fns_of_head h7
  exact ⟨fun w' hb => var_below gA hA hb (var_lt gA hA), fun w' hb => fnsAt_of (var_below gF hF hb (var_lt gF hF))⟩
section
variable {H : Type} {enc : TypeId × Value → H} {w : World} {base : Nat} {sp : Nat → Bool} {held : Bool} {fuel : Nat} {cs : List Value} {y : DataW H × List MemPlace}
theorem open_bytesW (h : DataW.trod enc Tryd.prog w base sp held fuel 22 cs = some y) (hw : Light Tryd.prog 22 y.1) :
    ∃ (A : Option Addr) (c : Nat) (l : List UInt8), cs = [.slice A (l.length : Nat) c] ∧ Reads w w.heap.size 1 A l.length (l.map fun (x : UInt8) => .int .u8 (x.toNat : Int)) ∧ l.length ≤ c := by
  obtain ⟨A, c, l, rfl, hr⟩ := open_bytes h hw
  rcases trod_slice_inv2 Tryd.underlying22 h with h0 | ⟨a, m, cap, f, elems, spare, h2, h3, h4, hy, h5⟩
  · injection h0 with h0 _
    injection h0 with e1 e2 e3
    exact ⟨A, c, l, rfl, hr, by omega⟩
  · injection h2 with h2 _
    injection h2 with e1 e2 e3
    exact ⟨A, c, l, rfl, hr, by omega⟩
end
end Go.Proofs.YtljeecocbcffcaaDoor
