
/- The program's Read. -/
import Derived.Test.YtaakhhnlmldegaaDoorJ3
import Derived.Test.YtaakhhnlmldegaaDoorI8
namespace Go.Proofs.YtaakhhnlmldegaaDoor
open Go.RowKit
set_option linter.unusedVariables false
set_option linter.unusedSimpArgs false

theorem rd_eq {a b c a' b' c' : Int} (h : (a, b, c) = (a', b', c')) : Ending.returned (.tuple #[.agg #[.int .u8 a, .int .i32 b], .int .i64 c]) = .returned (.tuple #[.agg #[.int .u8 a', .int .i32 b'], .int .i64 c']) := by
  injection h with h1 h2; injection h2 with h2 h3; rw [h1, h2, h3]
theorem pRead (S : ByteArray) (hs : S.size ≤ 281474976710656) (B : Nat) (w : World) (hL : Laid5 B w) (hB : B ≤ w.heap.size) :
    Calls Tryd.prog 17 #[.string S] w (RetV (readIV S.data.toList) w) := by
  have HCut := Lib.hid (fun w => iCut S w (by omega))
  have HNa := Lib.hid (fun w (h : Laid5 B w) (h2 : B ≤ w.heap.size) => pNamed (strB (S.data.toList.takeWhile (· != 32))) B w h h2)
  have HRd := Lib.hid (fun w (h : Laid B w) (h2 : B ≤ w.heap.size) => wRead B (strB (S.data.toList.dropWhile (· != 32)).tail) w (by
    rw [strB_size]
    have h3 := (List.dropWhile_suffix (p := (· != 32)) (l := S.data.toList)).length_le
    have h4 : (S.data.toList.dropWhile (· != 32)).tail.length ≤ (S.data.toList.dropWhile (· != 32)).length := by rw [List.length_tail]; omega
    have h5 : S.data.toList.length = S.size := by rw [Array.length_toList]; rfl
    exact Nat.le_trans h4 (Nat.le_trans h3 (by rw [h5]; exact hs))) h h2)
  have e1 : (strB (S.data.toList.takeWhile (· != 32))).data.toList = S.data.toList.takeWhile (· != 32) := by simp [strB]
  have e2 : (strB (S.data.toList.dropWhile (· != 32)).tail).data.toList = (S.data.toList.dropWhile (· != 32)).tail := by simp [strB]
  rw [e1] at HNa
  rw [e2] at HRd
  clear e1 e2
  obtain ⟨wb, hwb⟩ : ∃ wb, w.alloc (.cells #[.int .u8 0, .int .i32 0] 23) = wb := ⟨_, rfl⟩
  have hB0 : Below w.heap.size w wb := by rw [← hwb]; exact (Below.refl _ _).alloc (Nat.le_refl _) _
  have k0 : Blk wb w.heap.size 23 #[.int .u8 0, .int .i32 0] := by rw [← hwb]; exact Blk.new _ _ _
  have hbs : wb.heap.size = w.heap.size + 1 := by rw [← hwb]; simp
  have HLb := Lib.hid (hL.on (hB0.mono hB))
  have Hwb := Lib.hid hwb
  clear hwb hL
  unfold cutV at HCut
  unfold instR at HNa
  unfold readV at HRd
  generalize hNM : strB (S.data.toList.takeWhile (· != 32)) = NM at *
  generalize hOP : strB (S.data.toList.dropWhile (· != 32)).tail = OP at *
  have hR : readI S.data.toList = match namedI (S.data.toList.takeWhile (· != 32)) with
      | none => (0, 0, 50)
      | some r => match S.data.toList.dropWhile (· != 32) with
        | [] => if r.fn = 15 then ((r.fn : Int), (r.arg : Int), (0 : Int)) else (0, 0, 5)
        | _ :: o => if r.fn = 15 then (0, 0, 5) else if (readF o).2 = 0 then (r.fn, (readF o).1, 0) else (0, 0, 5) := rfl
  clear hNM hOP
  generalize namedI (S.data.toList.takeWhile (· != 32)) = nm at *
  generalize S.data.toList.dropWhile (· != 32) = rest at *
  unfold readIV
  generalize readI S.data.toList = R at *
  have F2 : ∀ W, Blk W w.heap.size 23 #[.int .u8 0, .int .i32 0] → W.frozen? ⟨w.heap.size, 0, none⟩ = false ∧ W.frozen? ⟨w.heap.size, 1, none⟩ = false ∧ W.cell? ⟨w.heap.size, 0, none⟩ = some (.int .u8 0) ∧ W.cell? ⟨w.heap.size, 1, none⟩ = some (.int .i32 0) := fun W h => ⟨h.frozen 0, h.frozen 1, h.cell 0, h.cell 1⟩
  have HF2 := Lib.hid F2
  clear F2
  go_enter Tryd.func17, Tryd.ntmps17
  go_upto_region 1 with (fail)
  rw [Hwb.out]
  clear Hwb
  go_upto_region 2 with (go_at_call 33; refine (HCut.out _).mono ?_; rintro e w1 ⟨rfl, nc, rfl⟩)
  have hBc : Below w.heap.size w (wb.drewN nc) := hB0.trans ⟨rfl, rfl, rfl, Nat.le_refl _, fun _ _ => rfl⟩
  have kc : Blk (wb.drewN nc) w.heap.size 23 #[.int .u8 0, .int .i32 0] := k0
  have hbc : (wb.drewN nc).heap.size = w.heap.size + 1 := hbs
  have HLc := Lib.hid (HLb.out.on (B := B) (w1 := wb.drewN nc) ⟨rfl, rfl, rfl, Nat.le_refl _, fun _ _ => rfl⟩)
  generalize wb.drewN nc = wc at *
  clear hB0 k0 hbs HLb HCut
  cases nm with
  | none =>
    simp only [Option.getD_none, Option.isSome_none] at HNa
    have HR := Lib.hid hR
    clear hR
    go_wp2_with (first
      | (go_at_call 7; refine (HNa.out _ HLc.out (by omega)).mono ?_; rintro e w1 ⟨rfl, hb1⟩;
         have k1 := kc.call hb1;
         have l1 := k1.lt;
         obtain ⟨f0, f1, g0, g1⟩ := HF2.out _ k1))
    have HB1 : Below w.heap.size w w1 := hBc.trans (hb1.mono (by omega))
    have hs1 := hb1.size
    refine bodyPost_ret (v := .tuple #[.agg #[.int .u8 0, .int .i32 0], .int .i64 50]) (by simp [results, Tryd.results17, go_sem, g0, g1, f0, f1, l1]) rfl ⟨by rw [HR.out], ?_⟩
    repeat (first
      | exact HB1
      | (refine Below.setCell ?_ (by simp <;> omega) _)
      | (refine Below.alloc ?_ (by simp <;> omega) _))
  | some r =>
    simp only [Option.getD_some, Option.isSome_some] at HNa hR
    generalize hfn : r.fn = fn at *
    generalize r.arg = ra at *
    clear hfn
    by_cases h15 : fn = 15
    · have t15 : ((fn : Int) == 15) = true := by rw [h15]; rfl
      rcases rest with _ | ⟨c, o⟩
      · simp only [h15, if_true] at hR
        have HR := Lib.hid hR
        have H15 := Lib.hid h15
        clear hR h15
        simp only [List.isEmpty_nil, Bool.not_true]
        go_wp2_with (first
          | (go_at_call 7; refine (HNa.out _ HLc.out (by omega)).mono ?_; rintro e w1 ⟨rfl, hb1⟩;
             have k1 := kc.call hb1;
             have l1 := k1.lt;
             obtain ⟨f0, f1, g0, g1⟩ := HF2.out _ k1))
        have HB1 : Below w.heap.size w w1 := hBc.trans (hb1.mono (by omega))
        have hs1 := hb1.size
        refine bodyPost_ret (v := .tuple #[.agg #[.int .u8 fn, .int .i32 ra], .int .i64 0]) (by simp [results, Tryd.results17, go_sem, g0, g1, f0, f1, l1]) rfl ⟨by rw [HR.out, H15.out], ?_⟩
        repeat (first
          | exact HB1
          | (refine Below.setCell ?_ (by simp <;> omega) _)
          | (refine Below.alloc ?_ (by simp <;> omega) _))
      · simp only [h15, if_true] at hR
        have HR := Lib.hid hR
        clear hR h15
        simp only [List.isEmpty_cons, Bool.not_false]
        go_wp2_with (first
          | (go_at_call 7; refine (HNa.out _ HLc.out (by omega)).mono ?_; rintro e w1 ⟨rfl, hb1⟩;
             have k1 := kc.call hb1;
             have l1 := k1.lt;
             obtain ⟨f0, f1, g0, g1⟩ := HF2.out _ k1))
        have HB1 : Below w.heap.size w w1 := hBc.trans (hb1.mono (by omega))
        have hs1 := hb1.size
        refine bodyPost_ret (v := .tuple #[.agg #[.int .u8 0, .int .i32 0], .int .i64 5]) (by simp [results, Tryd.results17, go_sem, g0, g1, f0, f1, l1]) rfl ⟨by rw [HR.out], ?_⟩
        repeat (first
          | exact HB1
          | (refine Below.setCell ?_ (by simp <;> omega) _)
          | (refine Below.alloc ?_ (by simp <;> omega) _))
    · have t15 : ((fn : Int) == 15) = false := by simp; omega
      rcases rest with _ | ⟨c, o⟩
      · simp only [if_neg h15] at hR
        have HR := Lib.hid hR
        clear hR h15
        simp only [List.isEmpty_nil, Bool.not_true]
        go_wp2_with (first
          | (go_at_call 7; refine (HNa.out _ HLc.out (by omega)).mono ?_; rintro e w1 ⟨rfl, hb1⟩;
             have k1 := kc.call hb1;
             have l1 := k1.lt;
             obtain ⟨f0, f1, g0, g1⟩ := HF2.out _ k1))
        have HB1 : Below w.heap.size w w1 := hBc.trans (hb1.mono (by omega))
        have hs1 := hb1.size
        refine bodyPost_ret (v := .tuple #[.agg #[.int .u8 0, .int .i32 0], .int .i64 5]) (by simp [results, Tryd.results17, go_sem, g0, g1, f0, f1, l1]) rfl ⟨by rw [HR.out], ?_⟩
        repeat (first
          | exact HB1
          | (refine Below.setCell ?_ (by simp <;> omega) _)
          | (refine Below.alloc ?_ (by simp <;> omega) _))
      · simp only [if_neg h15, List.tail_cons] at hR HRd
        simp only [List.isEmpty_cons, Bool.not_false]
        generalize readF o = q at *
        obtain ⟨v, e⟩ := q
        simp only at hR HRd
        clear h15
        have h32 : ∀ W, Below wc.heap.size wc W → Laid B W ∧ B ≤ W.heap.size := fun W h => ⟨(HLc.out.on (h.mono (by omega))).1, by have := h.size; omega⟩
        have H32 := Lib.hid h32
        clear h32
        by_cases h0 : e = 0
        · rw [if_pos h0] at hR
          have HR := Lib.hid hR
          have t0 : (e != 0) = false := by rw [h0]; rfl
          clear hR h0
          go_wp2_with (first
            | (go_at_call 7; refine (HNa.out _ HLc.out (by omega)).mono ?_; rintro e w1 ⟨rfl, hb1⟩;
               have k1 := kc.call hb1;
               have l1 := k1.lt;
               obtain ⟨f0, f1, g0, g1⟩ := HF2.out _ k1)
            | (go_at_call 34; have kA := hb1.alloc hb1.size (.cells #[.int .u8 fn, .int .i32 ra] 23);
               have bX0 := Blk.new w1 23 #[.int .u8 fn, .int .i32 ra];
               have kx0 := k1.alloc (.cells #[.int .u8 fn, .int .i32 ra] 23);
               obtain ⟨hl, hbB⟩ := H32.out _ kA;
               refine (HRd.out _ hl hbB).mono ?_; rintro e' w2 ⟨rfl, hb2⟩;
               have bX := bX0.call hb2; have kx := kx0.call hb2; have lx := bX.lt;
               obtain ⟨p0, p1, p2, p3⟩ := HF2.out _ kx;
               have q0 := bX.cell 0; have q1 := bX.cell 1; have q2 := bX.frozen 1; simp at q0 q1;
               have HB2 : Below w.heap.size w w2 := (hBc.trans (kA.mono (by omega))).trans (hb2.mono (by have := hb1.size; simp; omega));
               clear f0 f1 g0 g1 kA bX0 kx0 hb2))
          refine bodyPost_ret (v := .tuple #[.agg #[.int .u8 fn, .int .i32 v], .int .i64 0]) (by simp [results, Tryd.results17, go_sem, p0, p1, p2, p3, q0, q1, l1]) rfl ⟨by rw [HR.out], ?_⟩
          have hs1 := hb1.size
          repeat (first
            | exact HB2
            | (refine Below.setCell ?_ (by simp <;> omega) _)
            | (refine Below.alloc ?_ (by simp <;> omega) _))
        · rw [if_neg h0] at hR
          have HR := Lib.hid hR
          have t0 : (e != 0) = true := by simpa using h0
          clear hR h0
          go_wp2_with (first
            | (go_at_call 7; refine (HNa.out _ HLc.out (by omega)).mono ?_; rintro e w1 ⟨rfl, hb1⟩;
               have k1 := kc.call hb1;
               have l1 := k1.lt;
               obtain ⟨f0, f1, g0, g1⟩ := HF2.out _ k1)
            | (go_at_call 34; have kA := hb1.alloc hb1.size (.cells #[.int .u8 fn, .int .i32 ra] 23);
               have bX0 := Blk.new w1 23 #[.int .u8 fn, .int .i32 ra];
               have kx0 := k1.alloc (.cells #[.int .u8 fn, .int .i32 ra] 23);
               obtain ⟨hl, hbB⟩ := H32.out _ kA;
               refine (HRd.out _ hl hbB).mono ?_; rintro e' w2 ⟨rfl, hb2⟩;
               have bX := bX0.call hb2; have kx := kx0.call hb2; have lx := bX.lt;
               obtain ⟨p0, p1, p2, p3⟩ := HF2.out _ kx;
               have q0 := bX.cell 0; have q1 := bX.cell 1; have q2 := bX.frozen 1; simp at q0 q1;
               have HB2 : Below w.heap.size w w2 := (hBc.trans (kA.mono (by omega))).trans (hb2.mono (by have := hb1.size; simp; omega));
               clear f0 f1 g0 g1 kA bX0 kx0 hb2))
          refine bodyPost_ret (v := .tuple #[.agg #[.int .u8 0, .int .i32 0], .int .i64 5]) (by simp [results, Tryd.results17, go_sem, p0, p1, p2, p3, q0, q1, l1]) rfl ⟨by rw [HR.out], ?_⟩
          have hs1 := hb1.size
          repeat (first
            | exact HB2
            | (refine Below.setCell ?_ (by simp <;> omega) _)
            | (refine Below.alloc ?_ (by simp <;> omega) _))
end Go.Proofs.YtaakhhnlmldegaaDoor
