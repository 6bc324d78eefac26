/- Texts that belong together, joined: what each one holds is told ahead of it. -/
import Derived.Test.YtljeecocbcffcaaDoorHK7
import Derived.Laws.IdiomStrings
/- head of the laws, walked. -/
namespace Go.Proofs.YtljeecocbcffcaaDoor
open Go.RowKit Go.Maps Go.WideMaps Go.Shelf
set_option linter.unusedSimpArgs false
set_option linter.unusedVariables false

theorem RetLens.zero {ls : List LineL} {w w' : World} {e : Ending} (he : checkE ls = 0) (h : RetLens ls w e w') :
    Below w.heap.size w w' ∧ ∃ g, e = .returned (.tuple #[.slice (some ⟨g, 0, none⟩) ls.length ls.length, .int .i64 0]) ∧ Blk w' g 3 (ncells (fixL (opds ls))).toArray ∧ w.heap.size ≤ g := by
  refine ⟨h.1, ?_⟩
  rcases h.2 with h | h
  · exact h.2
  · exact absurd he h.1
theorem RetLens.not {ls : List LineL} {w w' : World} {e : Ending} (he : checkE ls ≠ 0) (h : RetLens ls w e w') :
    Below w.heap.size w w' ∧ e = .returned (.tuple #[.slice none 0 0, .int .i64 (checkE ls)]) := by
  refine ⟨h.1, ?_⟩
  rcases h.2 with h | h
  · exact absurd h.1 he
  · exact h.2
theorem RetAsm.zero {ls : List LineL} {w w' : World} {e : Ending} (he : checkE ls = 0) (h : RetAsm ls w e w') :
    Below w.heap.size w w' ∧ ∃ A c g, e = .returned (.tuple #[.slice A (codeL ls).length c, .slice (some ⟨g, 0, none⟩) ls.length ls.length, .int .i64 0]) ∧ w'.ownsRow w.heap.size 5 1 (.slice A (codeL ls).length c) (codeL ls).length (bcells (codeL ls)) ∧
      Blk w' g 3 (ncells (adrs (fixL (opds ls)) ls.length)).toArray ∧ w.heap.size ≤ g := by
  refine ⟨h.1, ?_⟩
  rcases h.2 with h | h
  · exact h.2
  · exact absurd he h.1
theorem RetAsm.not {ls : List LineL} {w w' : World} {e : Ending} (he : checkE ls ≠ 0) (h : RetAsm ls w e w') :
    Below w.heap.size w w' ∧ e = .returned (.tuple #[.slice none 0 0, .slice none 0 0, .int .i64 (checkE ls)]) := by
  refine ⟨h.1, ?_⟩
  rcases h.2 with h | h
  · exact absurd h.1 he
  · exact h.2
theorem conv_back {w : World} {B n c : Nat} {A : Option Addr} {l : List UInt8} (h : Reads w B 1 A n (bcells l)) : (convert 22 9 (.slice A n c)).run Tryd.prog w = .ok (.string (strB l)) w := by
  have hl := h.1
  rw [bcells_len] at hl
  obtain rfl : n = l.length := by omega
  by_cases h0 : l = []
  · subst h0
    rw [List.length_nil, run_convert_bytes_string w _ _ _ A 0 c Tryd.underlying22 Tryd.underlying5 Tryd.underlying9]
    cases A <;> simp [Conv.bytesToString, loadCells]
    all_goals rfl
  · obtain ⟨ad, rfl, -, hc⟩ := h.2 (by cases l with | nil => exact absurd rfl h0 | cons => simp)
    exact run_convert_bytes_back w _ _ _ ad c l Tryd.underlying22 Tryd.underlying5 Tryd.underlying9 (fun j hj => hc j _ (bcells_get (List.getElem?_eq_getElem hj)))
set_option maxRecDepth 100000 in
set_option maxHeartbeats 8000000 in
theorem lHead (B : Nat) (w : World) (hL : Laid5 B w) (hm : MaxAt B w) (hB : B ≤ w.heap.size) (hgB : 1 < B) :
    Calls Tryd.prog 24 #[] w (RetV (.bool true) w) := by
  have S := Lib.hid (S6.start hL hm hB)
  have hl4 : sampleL.length = 4 := rfl
  have hl1 : (sampleL.take 1).length = 1 := rfl
  have hl2 : (sampleL.drop 2).length = 2 := rfl
  have HL1 := Lib.hid (fun A (w1 : World) (h1 : Laid5 B w1) (h2 : B ≤ w1.heap.size) hr => (pLengths sampleL sample_ok (by decide) A 4 B w1 hr h1 h2).mono fun e w' h => h.zero sample_check)
  have HA1 := Lib.hid (fun A (w1 : World) (h1 : Laid5 B w1) (h2 : B ≤ w1.heap.size) hr => (pAssemble sampleL sample_ok (by decide) A 4 B w1 hr h1 h2).mono fun e w' h => h.zero sample_check)
  have HL2 := Lib.hid (fun A (w1 : World) (h1 : Laid5 B w1) (h2 : B ≤ w1.heap.size) hr => (pLengths (sampleL.take 1) (fun x hx => sample_ok x (List.mem_of_mem_take hx)) (by decide) A 4 B w1 hr h1 h2).mono fun e w' h => h.not (by rw [sample_check1]; decide))
  have HT1 := Lib.hid (fun A (w1 : World) (h1 : Laid5 B w1) (h2 : B ≤ w1.heap.size) hr => pTextL (sampleL.drop 2) (fun x hx => sample_ok x (List.mem_of_mem_drop hx)) (by decide) A 2 B w1 hr h1 h2)
  have HR1 := Lib.hid (fun (w1 : World) (h1 : Laid5 B w1) (h2 : MaxAt B w1) (h3 : B ≤ w1.heap.size) => pReadL [98, 58, 32, 106, 32, 97, 10, 108, 100, 99, 32, 98, 45, 97, 10] (by decide) B w1 h1 h2 h3 hgB)
  unfold RetTx at HT1
  unfold RetRd at HR1
  rw [sample_fix] at HL1
  rw [hl4] at HL1 HA1
  rw [sample_code, sample_adrs] at HA1
  rw [hl1, sample_check1] at HL2
  rw [if_pos sample_all, hl2, sample_text] at HT1
  rw [show ([98, 58, 32, 106, 32, 97, 10, 108, 100, 99, 32, 98, 45, 97, 10] : List UInt8).length + 1 = 16 from rfl, sample_read] at HR1
  simp only [hl2] at HR1
  have hsb : strB [98, 58, 32, 106, 32, 97, 10, 108, 100, 99, 32, 98, 45, 97, 10] = ⟨#[98, 58, 32, 106, 32, 97, 10, 108, 100, 99, 32, 98, 45, 97, 10]⟩ := rfl
  rw [hsb] at HR1 HT1
  rw [show ([3, 33, 34, 76, 96, 10, 68] : List UInt8).length = 7 from rfl] at HA1
  clear hsb
  clear hL hm hB hl4 hl1 hl2
  go_enter Tryd.func24, Tryd.ntmps24
  go_upto_region 8 with (first
    | (go_at_call 47; (refine (lSample w).mono ?_); rintro e w1 ⟨rfl, rfl⟩
       have S1 := Lib.hid (S.out.alloc (.cells (linesL sampleL).toArray 27))
       have r1 := sample_reads w
       generalize w.alloc (.cells (linesL sampleL).toArray 27) = W1 at *
       have R1 := Lib.hid r1
       clear r1 S)
    | (go_at_call 46; (with_reducible refine (HL1.out _ _ S1.out.l S1.out.b R1.out).mono ?_); rintro e w2 ⟨hb2, gn, rfl, hn2, hgn⟩
       have S2 := Lib.hid (S1.out.call hb2)
       have N3 := Lib.hid (hn2.alloc (.cells (linesL sampleL).toArray 27))
       have S3 := Lib.hid (S2.out.alloc (.cells (linesL sampleL).toArray 27))
       have r3 := sample_reads w2
       have hs3 := lSample w2
       clear HL1 R1 S1 hn2 hb2)
    | (go_at_call 47; (with_reducible refine hs3.mono ?_); clear hs3; rintro e w3 ⟨rfl, rfl⟩
       generalize w2.alloc (.cells (linesL sampleL).toArray 27) = W3 at *
       have R3 := Lib.hid r3
       clear r3)
    | (go_at_call 14; (with_reducible refine (HA1.out _ _ S3.out.l S3.out.b R3.out).mono ?_); rintro e w4 ⟨hb4, ac, cc, ga, rfl, hc4, ha4, hga⟩
       have S4 := Lib.hid (S3.out.call hb4)
       have N5 := Lib.hid ((N3.out.call hb4).alloc (.cells (linesL sampleL).toArray 27))
       have C5 := Lib.hid (hc4.alloc (.cells (linesL sampleL).toArray 27))
       have A5 := Lib.hid (ha4.alloc (.cells (linesL sampleL).toArray 27))
       have S5' := Lib.hid (S4.out.alloc (.cells (linesL sampleL).toArray 27))
       have r5 := sample_reads1 w4
       have hs5 := lSample w4
       clear HA1 R3 S3 N3 hc4 ha4 hb4)
    | (go_at_call 47; (with_reducible refine hs5.mono ?_); clear hs5; rintro e w5 ⟨rfl, rfl⟩
       generalize w4.alloc (.cells (linesL sampleL).toArray 27) = W5 at *
       have R5 := Lib.hid r5
       clear r5)
    | (go_at_call 46; (with_reducible refine (HL2.out _ _ S5'.out.l S5'.out.b R5.out).mono ?_); rintro e w6 ⟨hb6, rfl⟩
       have S6' := Lib.hid (S5'.out.call hb6)
       have N7 := Lib.hid ((N5.out.call hb6).alloc (.cells (linesL sampleL).toArray 27))
       have C7 := Lib.hid ((C5.out.keep hb6 (Nat.le_refl _)).alloc (.cells (linesL sampleL).toArray 27))
       have A7 := Lib.hid ((A5.out.call hb6).alloc (.cells (linesL sampleL).toArray 27))
       have S7 := Lib.hid (S6'.out.alloc (.cells (linesL sampleL).toArray 27))
       have r7 := sample_reads2 w6
       have hs7 := lSample w6
       clear HL2 R5 S5' N5 C5 A5 hb6)
    | (go_at_call 47; (with_reducible refine hs7.mono ?_); clear hs7; rintro e w7 ⟨rfl, rfl⟩
       generalize w6.alloc (.cells (linesL sampleL).toArray 27) = W7 at *
       have R7 := Lib.hid r7
       clear r7)
    | (go_at_call 48; (with_reducible refine (HT1.out _ _ S7.out.l S7.out.b R7.out).mono ?_); rintro e w8 ⟨rfl, hb8⟩
       have S8 := Lib.hid (S7.out.call hb8)
       have N8 := Lib.hid (N7.out.call hb8)
       have C8 := Lib.hid (C7.out.keep hb8 (Nat.le_refl _))
       have A8 := Lib.hid (A7.out.call hb8)
       clear HT1 R7 S7 N7 C7 A7 hb8)
    | (go_at_call 25; (with_reducible refine (HR1.out _ S8.out.l S8.out.m S8.out.b).mono ?_); rintro e w9 ⟨hb9, al, cl, rfl, hl9⟩
       have S9 := Lib.hid (S8.out.call hb9)
       have N9 := Lib.hid (N8.out.call hb9)
       have C9 := Lib.hid (C8.out.keep hb9 (Nat.le_refl _))
       have A9 := Lib.hid (A8.out.call hb9)
       have S10 := Lib.hid (S9.out.alloc (.cells #[.int .i64 1, .int .i64 3, .int .i64 2, .int .i64 1] 3))
       have C10 := Lib.hid (C9.out.alloc (.cells #[.int .i64 1, .int .i64 3, .int .i64 2, .int .i64 1] 3))
       have A10 := Lib.hid (A9.out.alloc (.cells #[.int .i64 1, .int .i64 3, .int .i64 2, .int .i64 1] 3))
       have L10 := Lib.hid (hl9.alloc (.cells #[.int .i64 1, .int .i64 3, .int .i64 2, .int .i64 1] 3))
       have HI1 : Hid (Calls Tryd.prog 49 #[.slice (some ⟨gn, 0, none⟩) 4 4, .slice (some ⟨w9.heap.size, 0, none⟩) 4 4] (w9.alloc (.cells #[.int .i64 1, .int .i64 3, .int .i64 2, .int .i64 1] 3)) (RetV (.bool true) (w9.alloc (.cells #[.int .i64 1, .int .i64 3, .int .i64 2, .int .i64 1] 3)))) :=
         Lib.hid (sInts _ _ 4 4 4 4 [1, 3, 2, 1] [1, 3, 2, 1] _ (Reads.of_blk (N9.out.alloc (.cells #[.int .i64 1, .int .i64 3, .int .i64 2, .int .i64 1] 3)) rfl) (Reads.of_blk (xs := ncells [1, 3, 2, 1]) (Blk.new w9 3 #[.int .i64 1, .int .i64 3, .int .i64 2, .int .i64 1]) rfl) (by decide))
       clear HR1 S8 N8 C8 A8 hb9 hl9 S9 N9 C9 A9)
    | (go_at_call 49; (with_reducible refine HI1.out.mono ?_); rintro e w11 ⟨rfl, hb11⟩
       have S12 := Lib.hid ((S10.out.call hb11).alloc (.cells #[.int .i64 0, .int .i64 1, .int .i64 4, .int .i64 6] 3))
       have L12 := Lib.hid ((L10.out.keep hb11 (Nat.le_refl _)).alloc (.cells #[.int .i64 0, .int .i64 1, .int .i64 4, .int .i64 6] 3))
       have hcv : (convert 22 9 (.slice ac 7 cc)).run Tryd.prog w11 = .ok (.string ⟨#[3, 33, 34, 76, 96, 10, 68]⟩) w11 := conv_back (Reads.of_own (C10.out.keep hb11 (Nat.le_refl _)))
       have HI2 : Hid (Calls Tryd.prog 49 #[.slice (some ⟨ga, 0, none⟩) 4 4, .slice (some ⟨w11.heap.size, 0, none⟩) 4 4] (w11.alloc (.cells #[.int .i64 0, .int .i64 1, .int .i64 4, .int .i64 6] 3)) (RetV (.bool true) (w11.alloc (.cells #[.int .i64 0, .int .i64 1, .int .i64 4, .int .i64 6] 3)))) :=
         Lib.hid (sInts _ _ 4 4 4 4 [0, 1, 4, 6] [0, 1, 4, 6] _ (Reads.sub ((A10.out.call hb11).alloc (.cells #[.int .i64 0, .int .i64 1, .int .i64 4, .int .i64 6] 3)) 0 4 1 (by decide)) (Reads.of_blk (xs := ncells [0, 1, 4, 6]) (Blk.new w11 3 #[.int .i64 0, .int .i64 1, .int .i64 4, .int .i64 6]) rfl) (by decide))
       clear HI1 C10 A10 S10 L10 hb11)
    | (go_at_call 49; (with_reducible refine HI2.out.mono ?_); rintro e w13 ⟨rfl, hb13⟩
       have S14 := Lib.hid ((S12.out.call hb13).alloc (.cells (linesL sampleL).toArray 27))
       have L14 := Lib.hid ((L12.out.keep hb13 (Nat.le_refl _)).alloc (.cells (linesL sampleL).toArray 27))
       have r14 := sample_reads2 w13
       have hs14 := lSample w13
       clear HI2 S12 L12 hb13)
    | (go_at_call 47; (with_reducible refine hs14.mono ?_); clear hs14; rintro e w14 ⟨rfl, rfl⟩
       generalize w13.alloc (.cells (linesL sampleL).toArray 27) = W14 at *
       have HI3 := Lib.hid (sLines _ _ 2 cl 2 2 _ _ _ (Reads.of_own L14.out) r14 (by decide))
       rw [decide_eq_true rfl] at HI3
       clear r14 L14)
    | (go_at_call 27; (with_reducible refine HI3.out.mono ?_); clear HI3; rintro e w15 ⟨rfl, hb15⟩
       have S16 := Lib.hid ((S14.out.call hb15).alloc (.cells (linesL sampleL).toArray 27))
       have r16 := sample_reads w15
       have hs16 := lSample w15
       clear S14 hb15)
    | (go_at_call 47; (with_reducible refine hs16.mono ?_); clear hs16; rintro e w16 ⟨rfl, rfl⟩
       generalize w15.alloc (.cells (linesL sampleL).toArray 27) = W16 at *
       have HI4 := Lib.hid (pMayL sampleL sample_ok (by decide) _ 4 B W16 r16 S16.out.l S16.out.b)
       rw [sample_check, show sampleL.length = 4 from rfl] at HI4
       clear r16)
    | (go_at_call 50; (with_reducible refine HI4.out.mono ?_); clear HI4; rintro e w17 ⟨rfl, hb17⟩
       have K17 := Lib.hid (S16.out.call hb17).k))
  go_ret
  exact ⟨rfl, K17.out⟩
end Go.Proofs.YtljeecocbcffcaaDoor

/- Number of the reference, walked. -/
namespace Go.Proofs.YtljeecocbcffcaaDoor
open Go.RowKit Go.Maps Go.WideMaps Go.Shelf
set_option linter.unusedSimpArgs false
set_option linter.unusedVariables false

theorem conv_one (w : World) (z : Int) : (convert 22 9 (.slice (some ⟨w.heap.size, 0, none⟩) 1 1)).run Tryd.prog (w.alloc (.cells #[.int .u8 z] 5)) = .ok (.string (strB [UInt8.ofNat z.toNat])) (w.alloc (.cells #[.int .u8 z] 5)) := by
  rw [run_convert_bytes_string _ _ _ _ _ 1 1 Tryd.underlying22 Tryd.underlying5 Tryd.underlying9]
  have hl := run_loadCells_list (P := Tryd.prog) (w.alloc (.cells #[.int .u8 z] 5)) ⟨w.heap.size, 0, none⟩ (([z] : List Int).map (Value.int .u8)) (fun j v hj => by
    have hj0 : j = 0 := by
      have := (List.getElem?_eq_some_iff.1 hj).1
      simp at this; exact this
    subst hj0
    have e : (⟨w.heap.size, 0, none⟩ : Addr).add 0 = ⟨w.heap.size, 0, none⟩ := rfl
    rw [e, (Blk.new w 5 #[.int .u8 z]).cell 0]
    simpa using hj)
  simp only [List.length_map, List.length_cons, List.length_nil] at hl
  rw [run_bytesToString _ ⟨w.heap.size, 0, none⟩ 1 1 [z] hl]
  rfl
theorem strB_pre (c : UInt8) (l : List UInt8) : strB [c] ++ strB l = strB (c :: l) := by rw [str_append]; rfl
theorem bnil_app (a : ByteArray) : ({ data := #[] } : ByteArray) ++ a = a := by
  apply ByteArray.ext
  simp [ByteArray.data_append]
set_option maxRecDepth 100000 in
set_option maxHeartbeats 2000000 in
theorem rNum_loop (t : Nat) (ht : t ≤ 2147483648) (v : Int) (hv : is32 v) (hab : (v < 0 ∧ t = (-v).toNat) ∨ (0 ≤ v ∧ t = v.toNat)) (w : World) : Calls Tryd.prog 78 #[.int .i32 v] w (RetV (.string (strB (textL v false))) w) := by
  obtain ⟨v0, v1⟩ := hv
  have hcv := conv_one
  have hT : textL v false = Lib.itoa v := rfl
  rw [hT]
  have dstep : ∀ (k : Nat), strB [UInt8.ofNat (48 + t / 10 ^ k % 10)] ++ strB (digL 10 k t) = strB (digL 10 (k + 1) t) := fun k => by
    rw [← dig_dec _ (Nat.mod_lt _ (by decide)), strB_pre]; rfl
  have dzero : strB [UInt8.ofNat (48 + t % 10)] = strB (digL 10 1 t) := by
    have := dstep 0
    rw [Nat.pow_zero, Nat.div_one] at this
    rw [← this, show digL 10 0 t = [] from rfl, show strB [] = { data := #[] } from rfl, bapp_nil]
  have dend : ∀ k, (k = 0 ∨ 10 ^ k ≤ t) → t / 10 ^ (k + 1) = 0 → strB (digL 10 (k + 1) t) = strB (Lib.decDigits t) := fun k h1 h2 => by
    rw [dec_unique h1 ((Nat.div_eq_zero_iff_lt (Nat.pow_pos (by decide))).1 h2)]
  have dnext : ∀ k, t / 10 ^ (k + 1) / 10 = t / 10 ^ (k + 1 + 1) := fun k => by rw [Nat.pow_succ 10 (k + 1), Nat.div_div_eq_div_mul]
  have dge : ∀ k, 0 < t / 10 ^ (k + 1) → 10 ^ (k + 1) ≤ t := fun k h => by
    rcases Nat.lt_or_ge t (10 ^ (k + 1)) with h2 | h2
    · rw [Nat.div_eq_of_lt h2] at h; omega
    · exact h2
  have dsz : ∀ k, (strB (digL 10 k t)).size = k := fun k => digL_length 10 k t
  have dk : ∀ k, 0 < t / 10 ^ (k + 1) → k < 40 := fun k h => by have := pow_base 10 (k + 1) t (.inl rfl) (by omega) h; omega
  have DS := Lib.hid dstep
  have DZ := Lib.hid dzero
  have DE := Lib.hid dend
  have DN := Lib.hid dnext
  have DG := Lib.hid dge
  have DL := Lib.hid dsz
  have DK := Lib.hid dk
  clear dstep dzero dend dnext dge dsz dk hT
  have start : ∀ (W : World), W.heap.size = W.heap.size := fun _ => rfl
  rcases hab with ⟨hneg, rfl⟩ | ⟨hpos, rfl⟩
  · have hit : strB (Lib.itoa v) = ⟨#[45]⟩ ++ strB (Lib.decDigits (-v).toNat) := by
      rw [itoa_neg' hneg, show v.natAbs = (-v).toNat by omega]
      exact (str_append [45] _).symm
    rw [hit]
    obtain ⟨t, hte⟩ : ∃ t, (-v).toNat = t := ⟨_, rfl⟩
    rw [hte] at DS DZ DE DN DG DL DK ht ⊢
    have hvt : v = -(t : Int) := by omega
    subst hvt
    have ht0 : ¬ (t : Int) < 0 := by omega
    have hneg' : -(t : Int) < 0 := hneg
    have htpos : (0 : Int) < t := by omega
    have hz0 : strB [UInt8.ofNat (48 + (t : Int) % 10).toNat] = strB (digL 10 1 t) := by
      rw [← DZ.out, show (48 + (t : Int) % 10).toNat = 48 + t % 10 by omega]
    have hcv0 : ∀ (w : World), (convert 22 9 (.slice (some ⟨w.heap.size, 0, none⟩) 1 1)).run Tryd.prog (w.alloc (.cells #[.int .u8 (48 + (t : Int) % 10)] 5)) = .ok (.string (strB (digL 10 1 t))) (w.alloc (.cells #[.int .u8 (48 + (t : Int) % 10)] 5)) := fun w => by rw [← hz0]; exact conv_one w _
    have hd1 : ((t / 10 : Nat) : Int) = (t : Int) / 10 := by omega
    have h0 : (0 : Int) ≤ (t : Int) % 10 := by omega
    have h10 : (t : Int) % 10 ≤ 9 := by omega
    have K0 : ∀ z, Below w.heap.size w (w.alloc (.cells #[.int .u8 z] 5)) := fun z => (Below.refl _ _).alloc (Nat.le_refl _) _
    have KK := Lib.hid K0
    have D1 := Lib.hid hd1
    clear hte hit hneg hz0 hcv start DZ hd1 K0
    go_enter Tryd.func78, Tryd.ntmps78
    go_wp2
    have K1 := Lib.hid (KK.out (48 + (t : Int) % 10))
    go_loopw [3, 5] (fun x s wr => ∃ k : Nat, x = .int .i64 ((t / 10 ^ (k + 1) : Nat) : Int) ∧ s = .string (strB (digL 10 (k + 1) t)) ∧ Hid (k = 0 ∨ 10 ^ k ≤ t) ∧ Hid (Below w.heap.size w wr)) (fun x _ _ => (intOf x).toNat)
    case atStart => exact ⟨0, by rw [Nat.pow_one, D1.out], rfl, Lib.hid (.inl rfl), K1⟩
    case round =>
      clear K1 KK hcv0 D1 h0 h10
      obtain ⟨k, rfl, rfl, HK, K⟩ := hrel
      have dg := DG.out k
      have dn := DN.out k
      have ds := DS.out (k + 1)
      have dz := DL.out (k + 1)
      have dk := DK.out k
      have de := DE.out k HK.out
      have hxt : ((t / 10 ^ (k + 1) : Nat) : Int) ≤ 2147483648 := by have := Nat.div_le_self t (10 ^ (k + 1)); omega
      have hkt : k ≤ 2147483648 := by
        rcases HK.out with h | h
        · omega
        · have : k < 10 ^ k := Nat.lt_pow_self (by decide)
          omega
      generalize t / 10 ^ (k + 1) = x at *
      generalize strB (digL 10 (k + 1) t) = S at *
      by_cases hx : 0 < x
      · have hxI : (0 : Int) < x := by omega
        have hk40 := dk hx
        have hn1 : ((x / 10 : Nat) : Int) = (x : Int) / 10 := by omega
        have hcv1 : ∀ (w : World), (convert 22 9 (.slice (some ⟨w.heap.size, 0, none⟩) 1 1)).run Tryd.prog (w.alloc (.cells #[.int .u8 (48 + (x : Int) % 10)] 5)) = .ok (.string (strB [UInt8.ofNat (48 + x % 10)])) (w.alloc (.cells #[.int .u8 (48 + (x : Int) % 10)] 5)) := fun w => by
          rw [conv_one w, show (48 + (x : Int) % 10).toNat = 48 + x % 10 by omega]
        have h0 : (0 : Int) ≤ (x : Int) % 10 := by omega
        have h10 : (x : Int) % 10 ≤ 9 := by omega
        have hs1 : (strB [UInt8.ofNat (48 + x % 10)]).size = 1 := rfl
        have hcc : ¬ 9223372036854775807 < (strB [UInt8.ofNat (48 + x % 10)]).size + S.size := by rw [hs1, dz]; omega
        have NEW := Lib.hid (And.intro hn1 (And.intro dn (And.intro ds (And.intro (dg hx) (K.out.alloc K.out.size (.cells #[.int .u8 (48 + (x : Int) % 10)] 5))))))
        have hxle : (x : Int) ≤ 2147483648 ∨ True := .inr trivial
        clear dg dn ds dk de hn1 hxle
        generalize strB [UInt8.ofNat (48 + x % 10)] = C at *
        go_wp2
        go_roundw
        case rel =>
          obtain ⟨e1, e2, e3, e4, e5⟩ := NEW.out
          exact ⟨k + 1, by rw [← e2, e1], by rw [e3], Lib.hid (.inr e4), Lib.hid e5⟩
        case measure => simp [intOf]; omega
      · have hxI : ¬ (0 : Int) < x := by omega
        have hd := Lib.hid (de (by omega))
        clear dg dn ds dk de
        have hcc : ¬ 9223372036854775807 < 1 + S.size := by rw [dz]; omega
        go_wp2
        go_ret
        exact ⟨by rw [hd.out]; rfl, K.out⟩
  · have hit : strB (Lib.itoa v) = strB (Lib.decDigits v.toNat) := by rw [itoa_pos hpos]
    rw [hit]
    obtain ⟨t, hte⟩ : ∃ t, v.toNat = t := ⟨_, rfl⟩
    rw [hte] at DS DZ DE DN DG DL DK ht ⊢
    have hvt : v = (t : Int) := by omega
    subst hvt
    have hneg' : ¬ (t : Int) < 0 := by omega
    have hz0 : strB [UInt8.ofNat (48 + (t : Int) % 10).toNat] = strB (digL 10 1 t) := by
      rw [← DZ.out, show (48 + (t : Int) % 10).toNat = 48 + t % 10 by omega]
    have hcv0 : ∀ (w : World), (convert 22 9 (.slice (some ⟨w.heap.size, 0, none⟩) 1 1)).run Tryd.prog (w.alloc (.cells #[.int .u8 (48 + (t : Int) % 10)] 5)) = .ok (.string (strB (digL 10 1 t))) (w.alloc (.cells #[.int .u8 (48 + (t : Int) % 10)] 5)) := fun w => by rw [← hz0]; exact conv_one w _
    have hd1 : ((t / 10 : Nat) : Int) = (t : Int) / 10 := by omega
    have h0 : (0 : Int) ≤ (t : Int) % 10 := by omega
    have h10 : (t : Int) % 10 ≤ 9 := by omega
    have K0 : ∀ z, Below w.heap.size w (w.alloc (.cells #[.int .u8 z] 5)) := fun z => (Below.refl _ _).alloc (Nat.le_refl _) _
    have KK := Lib.hid K0
    have D1 := Lib.hid hd1
    clear hte hit hpos hz0 hcv start DZ hd1 K0
    go_enter Tryd.func78, Tryd.ntmps78
    go_wp2
    have K1 := Lib.hid (KK.out (48 + (t : Int) % 10))
    go_loopw [3, 5] (fun x s wr => ∃ k : Nat, x = .int .i64 ((t / 10 ^ (k + 1) : Nat) : Int) ∧ s = .string (strB (digL 10 (k + 1) t)) ∧ Hid (k = 0 ∨ 10 ^ k ≤ t) ∧ Hid (Below w.heap.size w wr)) (fun x _ _ => (intOf x).toNat)
    case atStart => exact ⟨0, by rw [Nat.pow_one, D1.out], rfl, Lib.hid (.inl rfl), K1⟩
    case round =>
      clear K1 KK hcv0 D1 h0 h10
      obtain ⟨k, rfl, rfl, HK, K⟩ := hrel
      have dg := DG.out k
      have dn := DN.out k
      have ds := DS.out (k + 1)
      have dz := DL.out (k + 1)
      have dk := DK.out k
      have de := DE.out k HK.out
      have hxt : ((t / 10 ^ (k + 1) : Nat) : Int) ≤ 2147483648 := by have := Nat.div_le_self t (10 ^ (k + 1)); omega
      have hkt : k ≤ 2147483648 := by
        rcases HK.out with h | h
        · omega
        · have : k < 10 ^ k := Nat.lt_pow_self (by decide)
          omega
      generalize t / 10 ^ (k + 1) = x at *
      generalize strB (digL 10 (k + 1) t) = S at *
      by_cases hx : 0 < x
      · have hxI : (0 : Int) < x := by omega
        have hk40 := dk hx
        have hn1 : ((x / 10 : Nat) : Int) = (x : Int) / 10 := by omega
        have hcv1 : ∀ (w : World), (convert 22 9 (.slice (some ⟨w.heap.size, 0, none⟩) 1 1)).run Tryd.prog (w.alloc (.cells #[.int .u8 (48 + (x : Int) % 10)] 5)) = .ok (.string (strB [UInt8.ofNat (48 + x % 10)])) (w.alloc (.cells #[.int .u8 (48 + (x : Int) % 10)] 5)) := fun w => by
          rw [conv_one w, show (48 + (x : Int) % 10).toNat = 48 + x % 10 by omega]
        have h0 : (0 : Int) ≤ (x : Int) % 10 := by omega
        have h10 : (x : Int) % 10 ≤ 9 := by omega
        have hs1 : (strB [UInt8.ofNat (48 + x % 10)]).size = 1 := rfl
        have hcc : ¬ 9223372036854775807 < (strB [UInt8.ofNat (48 + x % 10)]).size + S.size := by rw [hs1, dz]; omega
        have NEW := Lib.hid (And.intro hn1 (And.intro dn (And.intro ds (And.intro (dg hx) (K.out.alloc K.out.size (.cells #[.int .u8 (48 + (x : Int) % 10)] 5))))))
        have hxle : (x : Int) ≤ 2147483648 ∨ True := .inr trivial
        clear dg dn ds dk de hn1 hxle
        generalize strB [UInt8.ofNat (48 + x % 10)] = C at *
        go_wp2
        go_roundw
        case rel =>
          obtain ⟨e1, e2, e3, e4, e5⟩ := NEW.out
          exact ⟨k + 1, by rw [← e2, e1], by rw [e3], Lib.hid (.inr e4), Lib.hid e5⟩
        case measure => simp [intOf]; omega
      · have hxI : ¬ (0 : Int) < x := by omega
        have hd := Lib.hid (de (by omega))
        clear dg dn ds dk de
        have hcc : ¬ 9223372036854775807 < 1 + S.size := by rw [dz]; omega
        go_wp2
        go_ret
        exact ⟨by rw [← hd.out]; exact congrArg (fun x => Ending.returned (.string x)) (bnil_app S), K.out⟩
theorem rNumber (v : Int) (hv : is32 v) (w : World) : Calls Tryd.prog 78 #[.int .i32 v] w (RetV (.string (strB (textL v false))) w) := by
  unfold is32 at hv
  by_cases h : v < 0
  · exact rNum_loop (-v).toNat (by omega) v hv (.inl ⟨h, rfl⟩) w
  · exact rNum_loop v.toNat (by omega) v hv (.inr ⟨by omega, rfl⟩) w
end Go.Proofs.YtljeecocbcffcaaDoor

/- One and Text of the reference, walked. -/
namespace Go.Proofs.YtljeecocbcffcaaDoor
open Go.RowKit Go.Maps Go.WideMaps Go.Shelf
set_option linter.unusedSimpArgs false
set_option linter.unusedVariables false

set_option maxRecDepth 100000 in
set_option maxHeartbeats 4000000 in
theorem rOne (x : LineL) (hx : LOk x) (B : Nat) (w : World) (hL : Laid5 B w) (hB : B ≤ w.heap.size) : Calls Tryd.prog 58 #[.agg (lineC x)] w (RetV (.string (strB (oneT x ++ [10]))) w) := by
  have S0 := S5.start hL hB
  have b0 := Blk.new w 27 (lineC x)
  have S1 := S0.alloc (.cells (lineC x) 27)
  obtain ⟨W, hW⟩ : ∃ W, w.alloc (.cells (lineC x) 27) = W := ⟨_, rfl⟩
  rw [hW] at b0 S1
  have HNm := Lib.hid (rName05 (x.fn : Int) x.arg ⟨by omega, by have := hx.fn; omega⟩ B W S1.l S1.b)
  have HI := Lib.hid (fun w => rNumber x.arg hx.arg w)
  have hil : (strB (textL x.arg false)).size ≤ 11 := textS_size x.arg false hx.arg
  unfold nameP at HNm
  have hnl : (strB ((findI (x.fn : Int) x.arg).getD irow0).name).size ≤ 12 := by rw [strB_size]; exact findI_name_len _ _
  have h1 : (strB x.label).size ≤ 281474976710656 := by rw [strB_size]; exact hx.label
  have h2 : (strB x.target).size ≤ 281474976710656 := by rw [strB_size]; exact hx.target
  have h3 : (strB x.frm).size ≤ 281474976710656 := by rw [strB_size]; exact hx.frm
  have el := strB_empty x.label
  have et := strB_empty x.target
  have ef := strB_empty x.frm
  have hone : strB (oneT x ++ [10]) = (if x.label.isEmpty then strB (nameT x) else strB x.label ++ strB [58, 32] ++ strB (nameT x)) ++
      (if x.fn = 15 then strB [] else if x.target.isEmpty then strB [32] ++ strB (textL x.arg false) else if x.frm.isEmpty then strB [32] ++ strB x.target else strB [32] ++ strB x.target ++ strB [45] ++ strB x.frm) ++ strB [10] := by
    rw [oneT, tailT]
    by_cases h1 : x.label.isEmpty = true <;> by_cases h2 : x.fn = 15 <;> by_cases h3 : x.target.isEmpty = true <;> by_cases h4 : x.frm.isEmpty = true <;>
      simp only [h1, h2, h3, h4, if_true, if_false, str_append, List.append_assoc, List.nil_append, List.cons_append, List.append_nil, Bool.false_eq_true]
  have hle2 := hx.fn
  obtain ⟨ha1, ha2⟩ := hx.arg
  rw [show ((findI (x.fn : Int) x.arg).getD irow0).name = nameT x from rfl] at HNm hnl
  simp only [lineC] at b0 hW ⊢
  clear hL hx S0
  generalize strB (textL x.arg false) = SI at *
  generalize strB (oneT x ++ [10]) = SO at *
  generalize strB (nameT x) = NM at *
  generalize strB x.label = SL at *
  generalize strB x.target = ST at *
  generalize strB x.frm = SF at *
  generalize x.label.isEmpty = zl at *
  generalize x.target.isEmpty = zt at *
  generalize x.frm.isEmpty = zf at *
  generalize (findI (x.fn : Int) x.arg).isSome = bs at *
  have k0 : Below w.heap.size w W := S1.k
  have HS1 := Lib.hid S1
  have HONE := Lib.hid hone
  clear S1 hone
  have c00 := b0.cell 0
  have c01 := b0.cell 1
  have c02 := b0.cell 2
  have c03 := b0.cell 3
  have c04 := b0.cell 4
  simp at c00 c01 c02 c03 c04
  go_enter Tryd.func58, Tryd.ntmps58
  go_upto_region 1 with (fail)
  by_cases h15 : x.fn = 15
  · have h15i : ((x.fn : Int) != 15) = false := by simp; omega
    have H15 := Lib.hid h15
    clear h15
    cases zl
    all_goals
      go_wp2_with (first
        | (go_at_call 77; refine HNm.out.mono ?_; rintro e w1 ⟨rfl, hb1⟩
           have HS2 := Lib.hid (HS1.out.call hb1)
           have b1 := b0.call hb1
           have d00 := b1.cell 0
           have d01 := b1.cell 1
           have d02 := b1.cell 2
           have d03 := b1.cell 3
           have d04 := b1.cell 4
           simp at d00 d01 d02 d03 d04
           ))
      go_ret
      exact ⟨by rw [HONE.out]; simp [strB, ByteArray.append_assoc, H15.out, bapp_nil, bnil_app], HS2.out.k⟩
  have h15i : ((x.fn : Int) != 15) = true := by simp; omega
  have H15 := Lib.hid h15
  clear h15
  cases zt
  · cases zf
    all_goals cases zl
    all_goals
      go_wp2_with (first
        | (go_at_call 77; refine HNm.out.mono ?_; rintro e w1 ⟨rfl, hb1⟩
           have HS2 := Lib.hid (HS1.out.call hb1)
           have b1 := b0.call hb1
           have d00 := b1.cell 0
           have d01 := b1.cell 1
           have d02 := b1.cell 2
           have d03 := b1.cell 3
           have d04 := b1.cell 4
           simp at d00 d01 d02 d03 d04
           ))
      go_ret
      exact ⟨by rw [HONE.out]; simp [strB, ByteArray.append_assoc, H15.out, bapp_nil, bnil_app], HS2.out.k⟩
  · cases zl
    all_goals
      go_wp2_with (first
        | (go_at_call 77; refine HNm.out.mono ?_; rintro e w1 ⟨rfl, hb1⟩
           have HS2 := Lib.hid (HS1.out.call hb1)
           have b1 := b0.call hb1
           have d00 := b1.cell 0
           have d01 := b1.cell 1
           have d02 := b1.cell 2
           have d03 := b1.cell 3
           have d04 := b1.cell 4
           simp at d00 d01 d02 d03 d04
           )
        | (go_at_call 78; refine (HI.out _).mono ?_; rintro e w2 ⟨rfl, hb2⟩
           have HS3 := Lib.hid (HS2.out.call hb2)))
      go_ret
      exact ⟨by rw [HONE.out]; simp [strB, ByteArray.append_assoc, H15.out, bapp_nil, bnil_app], HS3.out.k⟩
end Go.Proofs.YtljeecocbcffcaaDoor

/- upto and number of the reference, walked. -/
namespace Go.Proofs.YtljeecocbcffcaaDoor
open Go.RowKit Go.Maps Go.WideMaps Go.Shelf
set_option linter.unusedSimpArgs false
set_option linter.unusedVariables false

theorem byte_eq (c d : UInt8) : (((c.toNat : Nat) : Int) == ((d.toNat : Nat) : Int)) = (c == d) := by
  rw [Bool.eq_iff_iff, beq_iff_eq, beq_iff_eq]
  constructor
  · intro h; exact UInt8.toNat.inj (by omega)
  · rintro rfl; rfl
set_option maxRecDepth 100000 in
theorem rUpto (S : ByteArray) (c : UInt8) (hs : S.size ≤ 281474976710656) (w : World) : Calls Tryd.prog 55 #[.string S, .int .u8 (c.toNat : Int)] w (RetV (.int .i64 ((S.data.toList.takeWhile (· != c)).length : Nat)) w) := by
  obtain ⟨L, hL⟩ : ∃ L, (S.data.toList.takeWhile (· != c)).length = L := ⟨_, rfl⟩
  have hle := (List.takeWhile_sublist (p := (· != c)) (l := S.data.toList)).length_le
  rw [hL, str_size] at hle
  have hat := tw_at c S.data.toList
  have hend := tw_end c S.data.toList
  rw [hL, str_size] at hend
  rw [hL] at hat ⊢
  have Hat := Lib.hid hat
  have Hend := Lib.hid hend
  clear hat hend hL
  go_enter Tryd.func55, Tryd.ntmps55
  go_wp2
  go_loop [5] (fun i => ∃ k : Nat, k ≤ L ∧ i = .int .i64 k) (fun i => L - (intOf i).toNat)
  case atStart => exact ⟨0, by omega, rfl⟩
  case round =>
    obtain ⟨k, hk, rfl⟩ := hrel
    have hk0 : (0 : Int) ≤ k := by omega
    by_cases hlt : k < L
    · obtain ⟨d, hd, hdc⟩ := Hat.out k hlt
      obtain ⟨hkS, hget⟩ := str_get hd
      have hkI : (k : Int) < S.size := by omega
      have hw1 : IntKind.i64.wrap ((k : Int) + 1) = (k : Int) + 1 := IntWalk.i64_in _ (by omega)
      have hdi : (((d.toNat : Nat) : Int) == ((c.toNat : Nat) : Int)) = false := by rw [byte_eq]; simpa using hdc
      generalize (c.toNat : Int) = ci at *
      clear hd hdc
      go_wp2
      go_round
      case rel => exact ⟨k + 1, by omega, by go_num⟩
      case measure => simp [intOf]; omega
    · obtain rfl : k = L := by omega
      by_cases hLS : k < S.size
      · obtain ⟨_, hget⟩ := str_get (Hend.out hLS)
        have hkI : (k : Int) < S.size := by omega
        have hdi : ((c.toNat : Int) == (c.toNat : Int)) = true := by simp
        go_wp2
        go_ret
        exact ⟨rfl, Below.refl _ _⟩
      · have hkI : ¬ (k : Int) < S.size := by omega
        have hkS : (S.size : Int) = k := by omega
        generalize (c.toNat : Int) = ci at *
        go_wp2
        go_ret
        exact ⟨rfl, Below.refl _ _⟩
def numN (l : List UInt8) : Nat := l.foldl (fun (n : Nat) (c : UInt8) => if 48 ≤ c.toNat ∧ c.toNat ≤ 57 then 10 * n + (c.toNat - 48) else n) 0
theorem numN_snoc (l : List UInt8) (c : UInt8) : numN (l ++ [c]) = if 48 ≤ c.toNat ∧ c.toNat ≤ 57 then 10 * numN l + (c.toNat - 48) else numN l := by simp [numN]
theorem numN_lt (l : List UInt8) : numN l < 10 ^ l.length := by
  induction l using snocInd with
  | h0 => decide
  | h l x ih =>
    rw [numN_snoc, List.length_append, List.length_cons, List.length_nil, Nat.pow_succ]
    split <;> omega
theorem numR_eq (l : List UInt8) : numR l = wrap32 (if l.head? = some 45 then -(numN (l.take 11) : Int) else (numN (l.take 11) : Int)) := rfl
set_option maxRecDepth 100000 in
set_option maxHeartbeats 2000000 in
theorem rnumber (S : ByteArray) (hs : S.size ≤ 281474976710656) (w : World) : Calls Tryd.prog 74 #[.string S] w (RetV (.int .i32 (numR S.data.toList)) w) := by
  obtain ⟨l, hl⟩ : ∃ l, S.data.toList = l := ⟨_, rfl⟩
  have hlen : l.length = S.size := by rw [← hl, str_size]
  have hb := fun k (h : k < S.size) => bytes_at (S := S) h
  rw [hl] at hb ⊢
  have HB := Lib.hid hb
  have HLEN := Lib.hid hlen
  have hres := numR_eq l
  have HRES := Lib.hid hres
  have hne : S.toList.isEmpty = l.isEmpty := by rw [ByteArray.toList_eq, hl]
  clear hb hlen hres hl
  go_enter Tryd.func74, Tryd.ntmps74
  go_wp2
  go_loop [3, 4] (fun x i => ∃ k : Nat, k ≤ S.size ∧ k ≤ 11 ∧ i = .int .i64 k ∧ x = .int .i64 (numN (l.take k) : Nat)) (fun _ i => 11 - (intOf i).toNat)
  case atStart => exact ⟨0, by omega, by omega, rfl, rfl⟩
  case round =>
    obtain ⟨k, hk, hk11, rfl, rfl⟩ := hrel
    have hk0 : (0 : Int) ≤ k := by omega
    have hnlt := numN_lt (l.take k)
    have hpow : 10 ^ (l.take k).length ≤ 10 ^ 11 := Nat.pow_le_pow_right (by decide) (by rw [List.length_take]; omega)
    have h11 : (10 : Nat) ^ 11 = 100000000000 := by decide
    by_cases hkl : k < S.size ∧ k < 11
    · obtain ⟨h1, h2⟩ := hkl
      have h1I : (k : Int) < S.size := by omega
      have h2I : (k : Int) < 11 := by omega
      obtain ⟨d, hd, hget⟩ := HB.out k h1
      have htk : l.take (k + 1) = l.take k ++ [d] := by rw [List.take_add_one, hd]; rfl
      have hsn := numN_snoc (l.take k) d
      rw [← htk] at hsn
      have HSN := Lib.hid hsn
      have hd255 := d.toNat_lt_size
      generalize numN (l.take k) = x at *
      have hxb : (x : Int) < 100000000000 := by omega
      clear hd htk hsn hnlt hpow h11
      by_cases h48 : 48 ≤ (d.toNat : Int)
      · by_cases h57 : (d.toNat : Int) ≤ 57
        · go_wp2
          go_round
          case rel => exact ⟨k + 1, by omega, by omega, by go_num, by rw [HSN.out, if_pos (by omega)]; go_num⟩
          case measure => simp [intOf]; omega
        · go_wp2
          go_round
          case rel => exact ⟨k + 1, by omega, by omega, by go_num, by rw [HSN.out, if_neg (by omega)]⟩
          case measure => simp [intOf]; omega
      · go_wp2
        go_round
        case rel => exact ⟨k + 1, by omega, by omega, by go_num, by rw [HSN.out, if_neg (by omega)]⟩
        case measure => simp [intOf]; omega
    · have htk : l.take k = l.take 11 := by
        by_cases hk2 : k = 11
        · rw [hk2]
        · rw [List.take_of_length_le (by rw [HLEN.out]; omega), List.take_of_length_le (by rw [HLEN.out]; omega)]
      rw [htk] at hnlt hpow ⊢
      generalize numN (l.take 11) = x at *
      have hxb : (x : Int) < 100000000000 := by omega
      clear htk hnlt hpow h11
      have hstop : ¬ (k : Int) < S.size ∨ ((k : Int) < S.size ∧ ¬ (k : Int) < 11) := by omega
      have fin : S.size = 0 ∨ (0 < S.size ∧ ∃ d, l[0]? = some d ∧ ∃ h : 0 < S.size, S[0] = d) := by
        rcases Nat.eq_zero_or_pos S.size with h | h
        · exact .inl h
        · obtain ⟨d, h1, h2⟩ := HB.out 0 h
          exact .inr ⟨h, d, h1, h, h2⟩
      rcases fin with h0 | ⟨h0, d, hd, h0', hget⟩
      · have hl0 : l = [] := List.eq_nil_of_length_eq_zero (by rw [HLEN.out]; exact h0)
        have hE : S.toList.isEmpty = true := by rw [hne, hl0]; rfl
        have hr := HRES.out
        rw [if_neg (by rw [hl0]; simp)] at hr
        have HR := Lib.hid hr
        clear hne hr hl0 HB HLEN HRES
        obtain rfl : S = ⟨#[]⟩ := by
          rcases S with ⟨d⟩
          have : d.size = 0 := h0
          rw [Array.size_eq_zero_iff.1 this]
        obtain rfl : k = 0 := by omega
        clear h0
        rcases hstop with q | ⟨q1, q2⟩
        · go_wp2
          go_ret
          exact ⟨by rw [HR.out]; rfl, Below.refl _ _⟩
        · exfalso
          have : (⟨#[]⟩ : ByteArray).size = 0 := rfl
          omega
      · have hln : l.isEmpty = false := by
          cases l with
          | nil => simp at hd
          | cons => rfl
        have hE : S.toList.isEmpty = false := by rw [hne, hln]
        have hhd : l.head? = some d := by
          cases l with
          | nil => simp at hd
          | cons => simpa using hd
        have hr := HRES.out
        rw [hhd] at hr
        have h0I : (0 : Int) < S.size := by omega
        cases h45 : ((d.toNat : Int) == 45) with
        | true =>
          have e : d = 45 := UInt8.toNat.inj (by simp at h45; show d.toNat = 45; omega)
          rw [if_pos (by rw [e])] at hr
          have HR := Lib.hid hr
          clear hne hr hhd hln hd HB HLEN HRES e
          rcases hstop with q | ⟨q1, q2⟩
          · go_wp2
            go_ret
            exact ⟨by rw [HR.out]; rfl, Below.refl _ _⟩
          · go_wp2
            go_ret
            exact ⟨by rw [HR.out]; rfl, Below.refl _ _⟩
        | false =>
          have e : d ≠ 45 := by rintro rfl; simp at h45
          rw [if_neg (by simpa using e)] at hr
          have HR := Lib.hid hr
          clear hne hr hhd hln hd HB HLEN HRES e
          rcases hstop with q | ⟨q1, q2⟩
          · go_wp2
            go_ret
            exact ⟨by rw [HR.out]; rfl, Below.refl _ _⟩
          · go_wp2
            go_ret
            exact ⟨by rw [HR.out]; rfl, Below.refl _ _⟩
end Go.Proofs.YtljeecocbcffcaaDoor

/- line of the reference, walked. -/
namespace Go.Proofs.YtljeecocbcffcaaDoor
open Go.RowKit Go.Maps Go.WideMaps Go.Shelf
set_option linter.unusedSimpArgs false
set_option linter.unusedVariables false

theorem rUp (l : List UInt8) (c : UInt8) (hl : l.length ≤ 4000000000) (w : World) : Calls Tryd.prog 55 #[.string (strB l), .int .u8 (c.toNat : Int)] w (RetV (.int .i64 ((l.takeWhile (· != c)).length : Nat)) w) := by
  have := rUpto (strB l) c (by rw [strB_size]; omega) w
  rwa [show (strB l).data.toList = l by simp [strB]] at this
theorem ext_pre (l : List UInt8) (c : UInt8) : (strB l).extract 0 (l.takeWhile (· != c)).length = strB (l.takeWhile (· != c)) := by
  rw [ext_take, show (strB l).data.toList = l by simp [strB], take_tw]
theorem ext_rest (l : List UInt8) (k : Nat) : (strB l).extract k (strB l).size = strB (l.drop k) := by
  rw [ext_drop, show (strB l).data.toList = l by simp [strB]]
theorem rNm (l : List UInt8) (w : World) : Calls Tryd.prog 73 #[.string (strB l)] w (RetV (instR (namedI l)) w) := by
  have := rNamed (strB l) w
  rwa [show (strB l).data.toList = l by simp [strB]] at this
theorem rNo (l : List UInt8) (hl : l.length ≤ 4000000000) (w : World) : Calls Tryd.prog 74 #[.string (strB l)] w (RetV (.int .i32 (numR l)) w) := by
  have := rnumber (strB l) (by rw [strB_size]; omega) w
  rwa [show (strB l).data.toList = l by simp [strB]] at this
set_option maxRecDepth 100000 in
set_option maxHeartbeats 4000000 in
theorem rLine_no (l : List UInt8) (hl : l.length ≤ 4000000000) (h1 : ¬ (l.takeWhile (· != 58)).length + 1 < l.length) (w : World) : Calls Tryd.prog 56 #[.string (strB l)] w (RetV (.agg (lineC (parseB [] l))) w) := by
  have HU1 := Lib.hid (fun w => rUp l 58 hl w)
  have HU2 := Lib.hid (fun w => rUp l 32 hl w)
  have HNM := Lib.hid (fun w => rNm (l.takeWhile (· != 32)) w)
  have hpre := ext_pre l 32
  have hsz := strB_size l
  have k1le := tw_le 58 l
  have k2le := tw_le 32 l
  have hpe := parseB_eq [] l
  obtain ⟨kx, x0, y0⟩ := lay2 w #[.string ⟨#[]⟩, .int .u8 0, .int .i32 0, .string ⟨#[]⟩, .string ⟨#[]⟩] #[.string ⟨#[]⟩, .int .u8 0, .int .i32 0, .string ⟨#[]⟩, .string ⟨#[]⟩] 27 27
  obtain ⟨W, hW⟩ : ∃ W, (w.alloc (.cells #[.string ⟨#[]⟩, .int .u8 0, .int .i32 0, .string ⟨#[]⟩, .string ⟨#[]⟩] 27)).alloc (.cells #[.string ⟨#[]⟩, .int .u8 0, .int .i32 0, .string ⟨#[]⟩, .string ⟨#[]⟩] 27) = W := ⟨_, rfl⟩
  rw [hW] at kx x0 y0
  have HW := Lib.hid hW
  clear hW
  unfold instR at HNM
  generalize hyy : (namedI (l.takeWhile (· != 32))).getD irow0 = yy at *
  generalize (namedI (l.takeWhile (· != 32))).isSome = ok at *
  have hk1 : ¬ ((l.takeWhile (· != 58)).length : Int) + 1 < ((strB l).size : Int) := by rw [hsz]; omega
  generalize (l.takeWhile (· != 58)).length = k1 at *
  cases hd : l.dropWhile (· != 32) with
  | nil =>
    have hk2 : (l.takeWhile (· != 32)).length = l.length := by
      have h := List.takeWhile_append_dropWhile (p := (· != (32 : UInt8))) (l := l)
      rw [hd, List.append_nil] at h
      rw [h]
    rw [hd] at hpe
    simp only at hpe
    have HPE := Lib.hid hpe
    have hk2S : (l.takeWhile (· != 32)).length = (strB l).size := by rw [hsz, hk2]
    have hSs : (strB l).size ≤ 4000000000 := by rw [hsz]; exact hl
    generalize (l.takeWhile (· != 32)).length = k2 at *
    generalize strB (l.takeWhile (· != 32)) = P at *
    rw [show ((58 : UInt8).toNat : Int) = 58 from rfl] at HU1
    rw [show ((32 : UInt8).toNat : Int) = 32 from rfl] at HU2
    have hb4 : (k1 : Int) ≤ 4000000000 := by omega
    clear hpe hd hk2 h1 hyy hsz k1le k2le hl
    generalize strB l = S at *
    subst hk2S
    go_enter Tryd.func56, Tryd.ntmps56
    go_wp2_with (first
      | (go_at_call 55; rw [HW.out]; (with_reducible refine (HU1.out _).mono ?_); rintro e w1 ⟨rfl, hb1⟩
         have x1 := x0.call hb1
         have y1 := y0.call hb1
         have K1 := Lib.hid (kx.trans (hb1.mono kx.size))
         clear HU1)
      | (go_at_call 55; (with_reducible refine (HU2.out _).mono ?_); rintro e w2 ⟨rfl, hb2⟩
         have x2 := x1.call hb2
         have y2 := y1.call hb2
         have K2 := Lib.hid (K1.out.trans (hb2.mono K1.out.size))
         clear HU2)
      | (go_at_call 73; (with_reducible refine (HNM.out _).mono ?_); rintro e w3 ⟨rfl, hb3⟩
         have x3 := x2.call hb3
         have y3 := y2.call hb3
         have K3 := Lib.hid (K2.out.trans (hb3.mono K2.out.size))
         have cx0 := x3.cell 0
         have cx1 := x3.cell 1
         have cx2 := x3.cell 2
         have cx3 := x3.cell 3
         have cx4 := x3.cell 4
         simp at cx0 cx1 cx2 cx3 cx4
         have cy0 := y3.cell 0
         have cy1 := y3.cell 1
         have cy2 := y3.cell 2
         have cy3 := y3.cell 3
         have cy4 := y3.cell 4
         simp at cy0 cy1 cy2 cy3 cy4
         have fx0 := x3.frozen 0
         have fx1 := x3.frozen 1
         have fx2 := x3.frozen 2
         have fx3 := x3.frozen 3
         have fx4 := x3.frozen 4
         have fy0 := y3.frozen 0
         have fy1 := y3.frozen 1
         have fy2 := y3.frozen 2
         have fy3 := y3.frozen 3
         have fy4 := y3.frozen 4
         have lx := x3.lt
         have ly := y3.lt
         clear HNM))
    have R := (((((((x3.far (p := ⟨w.heap.size + 1, 1, none⟩) (by simp) (.int .u8 yy.fn)).far (p := ⟨w.heap.size + 1, 2, none⟩) (by simp) (.int .i32 yy.arg)).set_ 0 (.string ⟨#[]⟩)).set_ 1 (.int .u8 yy.fn)).set_ 2 (.int .i32 yy.arg)).set_ 3 (.string ⟨#[]⟩)).set_ 4 (.string ⟨#[]⟩)).alloc (.cells #[.int .u8 yy.fn, .int .i32 yy.arg] 59)
    simp at R
    obtain ⟨d0, d1, d2, d3, d4⟩ := cells5 R
    have KF := (((((((K3.out.setCell (p := ⟨w.heap.size + 1, 1, none⟩) (by simp) (.int .u8 yy.fn)).setCell (p := ⟨w.heap.size + 1, 2, none⟩) (by simp) (.int .i32 yy.arg)).setCell (p := ⟨w.heap.size, 0, none⟩) (by simp) (.string ⟨#[]⟩)).setCell (p := ⟨w.heap.size, 1, none⟩) (by simp) (.int .u8 yy.fn)).setCell (p := ⟨w.heap.size, 2, none⟩) (by simp) (.int .i32 yy.arg)).setCell (p := ⟨w.heap.size, 3, none⟩) (by simp) (.string ⟨#[]⟩)).setCell (p := ⟨w.heap.size, 4, none⟩) (by simp) (.string ⟨#[]⟩)).alloc (by have := K3.out.size; simp; omega) (.cells #[.int .u8 yy.fn, .int .i32 yy.arg] 59)
    generalize ((((((((w3.setCell ⟨w.heap.size + 1, 1, none⟩ (.int .u8 yy.fn)).setCell ⟨w.heap.size + 1, 2, none⟩ (.int .i32 yy.arg)).setCell ⟨w.heap.size, 0, none⟩ (.string ⟨#[]⟩)).setCell ⟨w.heap.size, 1, none⟩ (.int .u8 yy.fn)).setCell ⟨w.heap.size, 2, none⟩ (.int .i32 yy.arg)).setCell ⟨w.heap.size, 3, none⟩ (.string ⟨#[]⟩)).setCell ⟨w.heap.size, 4, none⟩ (.string ⟨#[]⟩)).alloc (.cells #[.int .u8 yy.fn, .int .i32 yy.arg] 59)) = FW at *
    clear R
    refine bodyPost_ret (v := .agg (lineC ⟨[], yy.fn, yy.arg, [], []⟩)) (by simp [results, Tryd.results56, go_sem, d0, d1, d2, d3, d4, lineC, strB]) rfl ⟨by rw [HPE.out], KF⟩
  | cons a o =>
    have ha : a = 32 := by
      have h := List.head?_dropWhile_not (p := (· != (32 : UInt8))) (l := l)
      rw [hd] at h
      simpa using h
    subst ha
    have hk2lt := tw_lt 32 l (by rw [hd]; simp)
    have hrest : (strB l).extract ((l.takeWhile (· != 32)).length + 1) (strB l).size = strB o := by
      rw [ext_rest, drop_tw1, hd]; rfl
    have hol : o.length ≤ 4000000000 := by
      have h := (List.dropWhile_sublist (p := (· != (32 : UInt8))) (l := l)).length_le
      rw [hd, List.length_cons] at h; omega
    rw [hd] at hpe
    simp only at hpe
    have HNO := Lib.hid (fun w => rNo o hol w)
    have HU3 := Lib.hid (fun w => rUp o 45 hol w)
    rw [show ((45 : UInt8).toNat : Int) = 45 from rfl] at HU3
    rw [show ((58 : UInt8).toNat : Int) = 58 from rfl] at HU1
    rw [show ((32 : UInt8).toNat : Int) = 32 from rfl] at HU2
    have hoe := strB_empty o
    have hosz := strB_size o
    have k2S : (l.takeWhile (· != 32)).length < (strB l).size := by rw [hsz]; exact hk2lt
    have k1S : k1 ≤ (strB l).size := by rw [hsz]; exact k1le
    have hSs : (strB l).size ≤ 4000000000 := by rw [hsz]; exact hl
    generalize (l.takeWhile (· != 32)).length = k2 at *
    generalize strB (l.takeWhile (· != 32)) = P at *
    generalize strB l = S at *
    have hk2I : ¬ (k2 : Int) = S.size := by omega
    have hk20 : (0 : Int) ≤ (k2 : Int) + 1 := by omega
    have hk21 : (k2 : Int) + 1 ≤ S.size := by omega
    have hob : ∀ c r, o = c :: r → ∃ h : 0 < (strB o).size, (strB o)[0] = c := by
      intro c r h
      subst h
      exact ⟨by rw [strB_size]; simp, rfl⟩
    cases hnh : numHead o with
    | true =>
      rw [if_pos hnh] at hpe
      have HPE := Lib.hid hpe
      cases o with
      | nil => cases hnh
      | cons c r =>
        obtain ⟨h0, hget⟩ := hob c r rfl
        have h0I : (0 : Int) < (strB (c :: r)).size := by omega
        have hz : (c :: r).isEmpty = false := rfl
        rw [hz] at hoe
        have hcc : ((c.toNat : Int) == 45) = true ∨ (((c.toNat : Int) == 45) = false ∧ 48 ≤ (c.toNat : Int) ∧ (c.toNat : Int) ≤ 57) := by
          simp only [numHead, Bool.or_eq_true, Bool.and_eq_true, decide_eq_true_eq, beq_iff_eq] at hnh
          rcases hnh with h | h
          · left; rw [h]; rfl
          · right
            refine ⟨by rw [beq_eq_false_iff_ne]; omega, by omega, by omega⟩
        generalize numR (c :: r) = nv at *
        generalize strB (c :: r) = O at *
        clear hpe hd hnh hz hob hk2lt hol hl hsz hosz h1 hyy k1le k2le HU3
        go_enter Tryd.func56, Tryd.ntmps56
        rcases hcc with q | ⟨q, q1, q2⟩
        all_goals
          go_wp2_with (first
            | (go_at_call 55; rw [HW.out]; (with_reducible refine (HU1.out _).mono ?_); rintro e w1 ⟨rfl, hb1⟩
               have x1 := x0.call hb1
               have y1 := y0.call hb1
               have K1 := Lib.hid (kx.trans (hb1.mono kx.size))
               clear HU1)
            | (go_at_call 55; (with_reducible refine (HU2.out _).mono ?_); rintro e w2 ⟨rfl, hb2⟩
               have x2 := x1.call hb2
               have y2 := y1.call hb2
               have K2 := Lib.hid (K1.out.trans (hb2.mono K1.out.size))
               clear HU2)
            | (go_at_call 73; (with_reducible refine (HNM.out _).mono ?_); rintro e w3 ⟨rfl, hb3⟩
               have x3 := x2.call hb3
               have y3 := y2.call hb3
               have K3 := Lib.hid (K2.out.trans (hb3.mono K2.out.size))
               have cx0 := x3.cell 0
               have cx1 := x3.cell 1
               have cx2 := x3.cell 2
               have cx3 := x3.cell 3
               have cx4 := x3.cell 4
               simp at cx0 cx1 cx2 cx3 cx4
               have cy0 := y3.cell 0
               have cy1 := y3.cell 1
               have cy2 := y3.cell 2
               have cy3 := y3.cell 3
               have cy4 := y3.cell 4
               simp at cy0 cy1 cy2 cy3 cy4
               have fx0 := x3.frozen 0
               have fx1 := x3.frozen 1
               have fx2 := x3.frozen 2
               have fx3 := x3.frozen 3
               have fx4 := x3.frozen 4
               have fy0 := y3.frozen 0
               have fy1 := y3.frozen 1
               have fy2 := y3.frozen 2
               have fy3 := y3.frozen 3
               have fy4 := y3.frozen 4
               have lx := x3.lt
               have ly := y3.lt
               clear HNM)
            | (go_at_call 74; (with_reducible refine (HNO.out _).mono ?_); rintro e w4 ⟨rfl, hb4⟩
               have x4 := (((x3.far (p := ⟨w.heap.size + 1, 1, none⟩) (by simp) (.int .u8 yy.fn)).far (p := ⟨w.heap.size + 1, 2, none⟩) (by simp) (.int .i32 yy.arg)).alloc (.cells #[.int .u8 yy.fn, .int .i32 yy.arg] 59)).call hb4
               have y4 := (((y3.set_ 1 (.int .u8 yy.fn)).set_ 2 (.int .i32 yy.arg)).alloc (.cells #[.int .u8 yy.fn, .int .i32 yy.arg] 59)).call hb4
               simp at y4
               have K4 := Lib.hid ((((K3.out.setCell (p := ⟨w.heap.size + 1, 1, none⟩) (by simp) (.int .u8 yy.fn)).setCell (p := ⟨w.heap.size + 1, 2, none⟩) (by simp) (.int .i32 yy.arg)).alloc (by have := K3.out.size; simp; omega) (.cells #[.int .u8 yy.fn, .int .i32 yy.arg] 59)).trans (hb4.mono (by have := K3.out.size; simp; omega)))
               have dx0 := x4.cell 0
               have dx1 := x4.cell 1
               have dx2 := x4.cell 2
               have dx3 := x4.cell 3
               have dx4 := x4.cell 4
               simp at dx0 dx1 dx2 dx3 dx4
               have dy0 := y4.cell 0
               have dy1 := y4.cell 1
               have dy2 := y4.cell 2
               have dy3 := y4.cell 3
               have dy4 := y4.cell 4
               simp at dy0 dy1 dy2 dy3 dy4
               have gx0 := x4.frozen 0
               have gx1 := x4.frozen 1
               have gx2 := x4.frozen 2
               have gx3 := x4.frozen 3
               have gx4 := x4.frozen 4
               have gy0 := y4.frozen 0
               have gy1 := y4.frozen 1
               have gy2 := y4.frozen 2
               have gy3 := y4.frozen 3
               have gy4 := y4.frozen 4
               have lx4 := x4.lt
               have ly4 := y4.lt
               clear HNO))
          have R := ((((((x4.far (p := ⟨w.heap.size + 1, 2, none⟩) (by simp) (.int .i32 nv)).set_ 0 (.string ⟨#[]⟩)).set_ 1 (.int .u8 yy.fn)).set_ 2 (.int .i32 nv)).set_ 3 (.string ⟨#[]⟩)).set_ 4 (.string ⟨#[]⟩))
          simp at R
          obtain ⟨d0, d1, d2, d3, d4⟩ := cells5 R
          have KF := ((((((K4.out.setCell (p := ⟨w.heap.size + 1, 2, none⟩) (by simp) (.int .i32 nv)).setCell (p := ⟨w.heap.size, 0, none⟩) (by simp) (.string ⟨#[]⟩)).setCell (p := ⟨w.heap.size, 1, none⟩) (by simp) (.int .u8 yy.fn)).setCell (p := ⟨w.heap.size, 2, none⟩) (by simp) (.int .i32 nv)).setCell (p := ⟨w.heap.size, 3, none⟩) (by simp) (.string ⟨#[]⟩)).setCell (p := ⟨w.heap.size, 4, none⟩) (by simp) (.string ⟨#[]⟩))
          generalize ((((((w4.setCell ⟨w.heap.size + 1, 2, none⟩ (.int .i32 nv)).setCell ⟨w.heap.size, 0, none⟩ (.string ⟨#[]⟩)).setCell ⟨w.heap.size, 1, none⟩ (.int .u8 yy.fn)).setCell ⟨w.heap.size, 2, none⟩ (.int .i32 nv)).setCell ⟨w.heap.size, 3, none⟩ (.string ⟨#[]⟩)).setCell ⟨w.heap.size, 4, none⟩ (.string ⟨#[]⟩)) = FW at *
          clear R
          refine bodyPost_ret (v := .agg #[(.string ⟨#[]⟩), (.int .u8 yy.fn), (.int .i32 nv), (.string ⟨#[]⟩), (.string ⟨#[]⟩)]) (by simp [results, Tryd.results56, go_sem, d0, d1, d2, d3, d4]) rfl ⟨by rw [HPE.out]; rfl, KF⟩
    | false =>
      rw [if_neg (by rw [hnh]; decide)] at hpe
      have HPE := Lib.hid hpe
      have hpre3 := ext_pre o 45
      have k3le := tw_le 45 o
      cases o with
      | nil =>
        have hz : ([] : List UInt8).isEmpty = true := rfl
        rw [hz] at hoe
        have hTG : (strB []).extract 0 0 = strB [] := rfl
        have hk30 : (([] : List UInt8).takeWhile (· != 45)).length = 0 := rfl
        rw [hk30] at HU3
        have hO0 : (strB []).size = 0 := rfl
        rw [show (([] : List UInt8).takeWhile (· != 45)) = [] from rfl] at HPE
        clear hpe hd hnh hz hob hk2lt hol hl hsz hosz h1 hyy k1le k2le HNO hpre3 k3le hk30
        generalize hOe : strB [] = O at *
        have HOO := Lib.hid hOe
        clear hOe
        go_enter Tryd.func56, Tryd.ntmps56
        go_wp2_with (first
          | (go_at_call 55; rw [HW.out]; (with_reducible refine (HU1.out _).mono ?_); rintro e w1 ⟨rfl, hb1⟩
             have x1 := x0.call hb1
             have y1 := y0.call hb1
             have K1 := Lib.hid (kx.trans (hb1.mono kx.size))
             clear HU1)
          | (go_at_call 55; (with_reducible refine (HU2.out _).mono ?_); rintro e w2 ⟨rfl, hb2⟩
             have x2 := x1.call hb2
             have y2 := y1.call hb2
             have K2 := Lib.hid (K1.out.trans (hb2.mono K1.out.size))
             clear HU2)
          | (go_at_call 73; (with_reducible refine (HNM.out _).mono ?_); rintro e w3 ⟨rfl, hb3⟩
             have x3 := x2.call hb3
             have y3 := y2.call hb3
             have K3 := Lib.hid (K2.out.trans (hb3.mono K2.out.size))
             have cx0 := x3.cell 0
             have cx1 := x3.cell 1
             have cx2 := x3.cell 2
             have cx3 := x3.cell 3
             have cx4 := x3.cell 4
             simp at cx0 cx1 cx2 cx3 cx4
             have cy0 := y3.cell 0
             have cy1 := y3.cell 1
             have cy2 := y3.cell 2
             have cy3 := y3.cell 3
             have cy4 := y3.cell 4
             simp at cy0 cy1 cy2 cy3 cy4
             have fx0 := x3.frozen 0
             have fx1 := x3.frozen 1
             have fx2 := x3.frozen 2
             have fx3 := x3.frozen 3
             have fx4 := x3.frozen 4
             have fy0 := y3.frozen 0
             have fy1 := y3.frozen 1
             have fy2 := y3.frozen 2
             have fy3 := y3.frozen 3
             have fy4 := y3.frozen 4
             have lx := x3.lt
             have ly := y3.lt
             clear HNM)
          | (go_at_call 55; (with_reducible refine (HU3.out _).mono ?_); rintro e w4 ⟨rfl, hb4⟩
             have x4 := (((x3.far (p := ⟨w.heap.size + 1, 1, none⟩) (by simp) (.int .u8 yy.fn)).far (p := ⟨w.heap.size + 1, 2, none⟩) (by simp) (.int .i32 yy.arg)).alloc (.cells #[.int .u8 yy.fn, .int .i32 yy.arg] 59)).call hb4
             have y4 := (((y3.set_ 1 (.int .u8 yy.fn)).set_ 2 (.int .i32 yy.arg)).alloc (.cells #[.int .u8 yy.fn, .int .i32 yy.arg] 59)).call hb4
             simp at y4
             have K4 := Lib.hid ((((K3.out.setCell (p := ⟨w.heap.size + 1, 1, none⟩) (by simp) (.int .u8 yy.fn)).setCell (p := ⟨w.heap.size + 1, 2, none⟩) (by simp) (.int .i32 yy.arg)).alloc (by have := K3.out.size; simp; omega) (.cells #[.int .u8 yy.fn, .int .i32 yy.arg] 59)).trans (hb4.mono (by have := K3.out.size; simp; omega)))
             have dx0 := x4.cell 0
             have dx1 := x4.cell 1
             have dx2 := x4.cell 2
             have dx3 := x4.cell 3
             have dx4 := x4.cell 4
             simp at dx0 dx1 dx2 dx3 dx4
             have dy0 := y4.cell 0
             have dy1 := y4.cell 1
             have dy2 := y4.cell 2
             have dy3 := y4.cell 3
             have dy4 := y4.cell 4
             simp at dy0 dy1 dy2 dy3 dy4
             have gx0 := x4.frozen 0
             have gx1 := x4.frozen 1
             have gx2 := x4.frozen 2
             have gx3 := x4.frozen 3
             have gx4 := x4.frozen 4
             have gy0 := y4.frozen 0
             have gy1 := y4.frozen 1
             have gy2 := y4.frozen 2
             have gy3 := y4.frozen 3
             have gy4 := y4.frozen 4
             have lx4 := x4.lt
             have ly4 := y4.lt
             clear HU3))
        have R := ((((((x4.far (p := ⟨w.heap.size + 1, 3, none⟩) (by simp) (.string ByteArray.empty)).set_ 0 (.string ⟨#[]⟩)).set_ 1 (.int .u8 yy.fn)).set_ 2 (.int .i32 yy.arg)).set_ 3 (.string ByteArray.empty)).set_ 4 (.string ⟨#[]⟩))
        simp at R
        obtain ⟨d0, d1, d2, d3, d4⟩ := cells5 R
        have KF := ((((((K4.out.setCell (p := ⟨w.heap.size + 1, 3, none⟩) (by simp) (.string ByteArray.empty)).setCell (p := ⟨w.heap.size, 0, none⟩) (by simp) (.string ⟨#[]⟩)).setCell (p := ⟨w.heap.size, 1, none⟩) (by simp) (.int .u8 yy.fn)).setCell (p := ⟨w.heap.size, 2, none⟩) (by simp) (.int .i32 yy.arg)).setCell (p := ⟨w.heap.size, 3, none⟩) (by simp) (.string ByteArray.empty)).setCell (p := ⟨w.heap.size, 4, none⟩) (by simp) (.string ⟨#[]⟩))
        generalize ((((((w4.setCell ⟨w.heap.size + 1, 3, none⟩ (.string ByteArray.empty)).setCell ⟨w.heap.size, 0, none⟩ (.string ⟨#[]⟩)).setCell ⟨w.heap.size, 1, none⟩ (.int .u8 yy.fn)).setCell ⟨w.heap.size, 2, none⟩ (.int .i32 yy.arg)).setCell ⟨w.heap.size, 3, none⟩ (.string ByteArray.empty)).setCell ⟨w.heap.size, 4, none⟩ (.string ⟨#[]⟩)) = FW at *
        clear R
        refine bodyPost_ret (v := .agg #[(.string ⟨#[]⟩), (.int .u8 yy.fn), (.int .i32 yy.arg), (.string ByteArray.empty), (.string ⟨#[]⟩)]) (by simp [results, Tryd.results56, go_sem, d0, d1, d2, d3, d4]) rfl ⟨by rw [HPE.out]; rfl, KF⟩
      | cons c r =>
        obtain ⟨h0, hget⟩ := hob c r rfl
        have h0I : (0 : Int) < (strB (c :: r)).size := by omega
        have hz : (c :: r).isEmpty = false := rfl
        rw [hz] at hoe
        have hcc : (((c.toNat : Int) == 45) = false ∧ ¬ 48 ≤ (c.toNat : Int)) ∨ (((c.toNat : Int) == 45) = false ∧ 48 ≤ (c.toNat : Int) ∧ ¬ (c.toNat : Int) ≤ 57) := by
          simp only [numHead, Bool.or_eq_false_iff, Bool.and_eq_false_iff, decide_eq_false_iff_not, beq_eq_false_iff_ne] at hnh
          have e45 : ((c.toNat : Int) == 45) = false := by
            rw [beq_eq_false_iff_ne]
            intro h
            exact hnh.1 (UInt8.toNat.inj (by show c.toNat = 45; omega))
          rcases hnh.2 with h | h
          · exact .inl ⟨e45, by omega⟩
          · by_cases h48 : 48 ≤ (c.toNat : Int)
            · exact .inr ⟨e45, h48, by omega⟩
            · exact .inl ⟨e45, h48⟩
        cases hd3 : (c :: r).dropWhile (· != 45) with
        | nil =>
          have hk3S : ((c :: r).takeWhile (· != 45)).length = (strB (c :: r)).size := by
            have h := List.takeWhile_append_dropWhile (p := (· != (45 : UInt8))) (l := c :: r)
            rw [hd3, List.append_nil] at h
            rw [h, strB_size]
          rw [hd3] at HPE
          have hOs : (strB (c :: r)).size ≤ 4000000000 := by rw [hosz]; exact hol
          generalize ((c :: r).takeWhile (· != 45)).length = k3 at *
          generalize hTGe : strB ((c :: r).takeWhile (· != 45)) = TG at *
          have HTG := Lib.hid hTGe
          generalize strB (c :: r) = O at *
          subst hk3S
          clear hpe hd hnh hz hob hk2lt hol hl hsz hosz h1 hyy k1le k2le HNO hd3 k3le hTGe
          rcases hcc with ⟨q, q1⟩ | ⟨q, q1, q2⟩
          all_goals
            go_enter Tryd.func56, Tryd.ntmps56
            go_wp2_with (first
              | (go_at_call 55; rw [HW.out]; (with_reducible refine (HU1.out _).mono ?_); rintro e w1 ⟨rfl, hb1⟩
                 have x1 := x0.call hb1
                 have y1 := y0.call hb1
                 have K1 := Lib.hid (kx.trans (hb1.mono kx.size))
                 clear HU1)
              | (go_at_call 55; (with_reducible refine (HU2.out _).mono ?_); rintro e w2 ⟨rfl, hb2⟩
                 have x2 := x1.call hb2
                 have y2 := y1.call hb2
                 have K2 := Lib.hid (K1.out.trans (hb2.mono K1.out.size))
                 clear HU2)
              | (go_at_call 73; (with_reducible refine (HNM.out _).mono ?_); rintro e w3 ⟨rfl, hb3⟩
                 have x3 := x2.call hb3
                 have y3 := y2.call hb3
                 have K3 := Lib.hid (K2.out.trans (hb3.mono K2.out.size))
                 have cx0 := x3.cell 0
                 have cx1 := x3.cell 1
                 have cx2 := x3.cell 2
                 have cx3 := x3.cell 3
                 have cx4 := x3.cell 4
                 simp at cx0 cx1 cx2 cx3 cx4
                 have cy0 := y3.cell 0
                 have cy1 := y3.cell 1
                 have cy2 := y3.cell 2
                 have cy3 := y3.cell 3
                 have cy4 := y3.cell 4
                 simp at cy0 cy1 cy2 cy3 cy4
                 have fx0 := x3.frozen 0
                 have fx1 := x3.frozen 1
                 have fx2 := x3.frozen 2
                 have fx3 := x3.frozen 3
                 have fx4 := x3.frozen 4
                 have fy0 := y3.frozen 0
                 have fy1 := y3.frozen 1
                 have fy2 := y3.frozen 2
                 have fy3 := y3.frozen 3
                 have fy4 := y3.frozen 4
                 have lx := x3.lt
                 have ly := y3.lt
                 clear HNM)
              | (go_at_call 55; (with_reducible refine (HU3.out _).mono ?_); rintro e w4 ⟨rfl, hb4⟩
                 have x4 := (((x3.far (p := ⟨w.heap.size + 1, 1, none⟩) (by simp) (.int .u8 yy.fn)).far (p := ⟨w.heap.size + 1, 2, none⟩) (by simp) (.int .i32 yy.arg)).alloc (.cells #[.int .u8 yy.fn, .int .i32 yy.arg] 59)).call hb4
                 have y4 := (((y3.set_ 1 (.int .u8 yy.fn)).set_ 2 (.int .i32 yy.arg)).alloc (.cells #[.int .u8 yy.fn, .int .i32 yy.arg] 59)).call hb4
                 simp at y4
                 have K4 := Lib.hid ((((K3.out.setCell (p := ⟨w.heap.size + 1, 1, none⟩) (by simp) (.int .u8 yy.fn)).setCell (p := ⟨w.heap.size + 1, 2, none⟩) (by simp) (.int .i32 yy.arg)).alloc (by have := K3.out.size; simp; omega) (.cells #[.int .u8 yy.fn, .int .i32 yy.arg] 59)).trans (hb4.mono (by have := K3.out.size; simp; omega)))
                 have dx0 := x4.cell 0
                 have dx1 := x4.cell 1
                 have dx2 := x4.cell 2
                 have dx3 := x4.cell 3
                 have dx4 := x4.cell 4
                 simp at dx0 dx1 dx2 dx3 dx4
                 have dy0 := y4.cell 0
                 have dy1 := y4.cell 1
                 have dy2 := y4.cell 2
                 have dy3 := y4.cell 3
                 have dy4 := y4.cell 4
                 simp at dy0 dy1 dy2 dy3 dy4
                 have gx0 := x4.frozen 0
                 have gx1 := x4.frozen 1
                 have gx2 := x4.frozen 2
                 have gx3 := x4.frozen 3
                 have gx4 := x4.frozen 4
                 have gy0 := y4.frozen 0
                 have gy1 := y4.frozen 1
                 have gy2 := y4.frozen 2
                 have gy3 := y4.frozen 3
                 have gy4 := y4.frozen 4
                 have lx4 := x4.lt
                 have ly4 := y4.lt
                 clear HU3))
            have R := ((((((x4.far (p := ⟨w.heap.size + 1, 3, none⟩) (by simp) (.string TG)).set_ 0 (.string ⟨#[]⟩)).set_ 1 (.int .u8 yy.fn)).set_ 2 (.int .i32 yy.arg)).set_ 3 (.string TG)).set_ 4 (.string ⟨#[]⟩))
            simp at R
            obtain ⟨d0, d1, d2, d3, d4⟩ := cells5 R
            have KF := ((((((K4.out.setCell (p := ⟨w.heap.size + 1, 3, none⟩) (by simp) (.string TG)).setCell (p := ⟨w.heap.size, 0, none⟩) (by simp) (.string ⟨#[]⟩)).setCell (p := ⟨w.heap.size, 1, none⟩) (by simp) (.int .u8 yy.fn)).setCell (p := ⟨w.heap.size, 2, none⟩) (by simp) (.int .i32 yy.arg)).setCell (p := ⟨w.heap.size, 3, none⟩) (by simp) (.string TG)).setCell (p := ⟨w.heap.size, 4, none⟩) (by simp) (.string ⟨#[]⟩))
            generalize ((((((w4.setCell ⟨w.heap.size + 1, 3, none⟩ (.string TG)).setCell ⟨w.heap.size, 0, none⟩ (.string ⟨#[]⟩)).setCell ⟨w.heap.size, 1, none⟩ (.int .u8 yy.fn)).setCell ⟨w.heap.size, 2, none⟩ (.int .i32 yy.arg)).setCell ⟨w.heap.size, 3, none⟩ (.string TG)).setCell ⟨w.heap.size, 4, none⟩ (.string ⟨#[]⟩)) = FW at *
            clear R
            refine bodyPost_ret (v := .agg #[(.string ⟨#[]⟩), (.int .u8 yy.fn), (.int .i32 yy.arg), (.string TG), (.string ⟨#[]⟩)]) (by simp [results, Tryd.results56, go_sem, d0, d1, d2, d3, d4]) rfl ⟨by rw [HPE.out, ← HTG.out]; rfl, KF⟩
        | cons a3 o3 =>
          have ha3 : a3 = 45 := by
            have h := List.head?_dropWhile_not (p := (· != (45 : UInt8))) (l := c :: r)
            rw [hd3] at h
            simpa using h
          subst ha3
          have hk3S : ((c :: r).takeWhile (· != 45)).length < (strB (c :: r)).size := by rw [hosz]; exact tw_lt 45 _ (by rw [hd3]; simp)
          have hrest3 : (strB (c :: r)).extract (((c :: r).takeWhile (· != 45)).length + 1) (strB (c :: r)).size = strB o3 := by
            rw [ext_rest, drop_tw1, hd3]; rfl
          rw [hd3] at HPE
          have hOs : (strB (c :: r)).size ≤ 4000000000 := by rw [hosz]; exact hol
          generalize ((c :: r).takeWhile (· != 45)).length = k3 at *
          generalize hTGe : strB ((c :: r).takeWhile (· != 45)) = TG at *
          generalize hFRe : strB o3 = FR at *
          have HTG := Lib.hid hTGe
          have HFR := Lib.hid hFRe
          generalize strB (c :: r) = O at *
          have hk3I : (k3 : Int) < O.size := by omega
          have hk30 : (0 : Int) ≤ (k3 : Int) + 1 := by omega
          have hk31 : (k3 : Int) + 1 ≤ O.size := by omega
          have hk32 : (0 : Int) ≤ (k3 : Int) := by omega
          have hk33 : (k3 : Int) ≤ O.size := by omega
          clear hpe hd hnh hz hob hk2lt hol hl hsz hosz h1 hyy k1le k2le HNO hd3 k3le hTGe hFRe
          rcases hcc with ⟨q, q1⟩ | ⟨q, q1, q2⟩
          all_goals
            go_enter Tryd.func56, Tryd.ntmps56
            go_wp2_with (first
              | (go_at_call 55; rw [HW.out]; (with_reducible refine (HU1.out _).mono ?_); rintro e w1 ⟨rfl, hb1⟩
                 have x1 := x0.call hb1
                 have y1 := y0.call hb1
                 have K1 := Lib.hid (kx.trans (hb1.mono kx.size))
                 clear HU1)
              | (go_at_call 55; (with_reducible refine (HU2.out _).mono ?_); rintro e w2 ⟨rfl, hb2⟩
                 have x2 := x1.call hb2
                 have y2 := y1.call hb2
                 have K2 := Lib.hid (K1.out.trans (hb2.mono K1.out.size))
                 clear HU2)
              | (go_at_call 73; (with_reducible refine (HNM.out _).mono ?_); rintro e w3 ⟨rfl, hb3⟩
                 have x3 := x2.call hb3
                 have y3 := y2.call hb3
                 have K3 := Lib.hid (K2.out.trans (hb3.mono K2.out.size))
                 have cx0 := x3.cell 0
                 have cx1 := x3.cell 1
                 have cx2 := x3.cell 2
                 have cx3 := x3.cell 3
                 have cx4 := x3.cell 4
                 simp at cx0 cx1 cx2 cx3 cx4
                 have cy0 := y3.cell 0
                 have cy1 := y3.cell 1
                 have cy2 := y3.cell 2
                 have cy3 := y3.cell 3
                 have cy4 := y3.cell 4
                 simp at cy0 cy1 cy2 cy3 cy4
                 have fx0 := x3.frozen 0
                 have fx1 := x3.frozen 1
                 have fx2 := x3.frozen 2
                 have fx3 := x3.frozen 3
                 have fx4 := x3.frozen 4
                 have fy0 := y3.frozen 0
                 have fy1 := y3.frozen 1
                 have fy2 := y3.frozen 2
                 have fy3 := y3.frozen 3
                 have fy4 := y3.frozen 4
                 have lx := x3.lt
                 have ly := y3.lt
                 clear HNM)
              | (go_at_call 55; (with_reducible refine (HU3.out _).mono ?_); rintro e w4 ⟨rfl, hb4⟩
                 have x4 := (((x3.far (p := ⟨w.heap.size + 1, 1, none⟩) (by simp) (.int .u8 yy.fn)).far (p := ⟨w.heap.size + 1, 2, none⟩) (by simp) (.int .i32 yy.arg)).alloc (.cells #[.int .u8 yy.fn, .int .i32 yy.arg] 59)).call hb4
                 have y4 := (((y3.set_ 1 (.int .u8 yy.fn)).set_ 2 (.int .i32 yy.arg)).alloc (.cells #[.int .u8 yy.fn, .int .i32 yy.arg] 59)).call hb4
                 simp at y4
                 have K4 := Lib.hid ((((K3.out.setCell (p := ⟨w.heap.size + 1, 1, none⟩) (by simp) (.int .u8 yy.fn)).setCell (p := ⟨w.heap.size + 1, 2, none⟩) (by simp) (.int .i32 yy.arg)).alloc (by have := K3.out.size; simp; omega) (.cells #[.int .u8 yy.fn, .int .i32 yy.arg] 59)).trans (hb4.mono (by have := K3.out.size; simp; omega)))
                 have dx0 := x4.cell 0
                 have dx1 := x4.cell 1
                 have dx2 := x4.cell 2
                 have dx3 := x4.cell 3
                 have dx4 := x4.cell 4
                 simp at dx0 dx1 dx2 dx3 dx4
                 have dy0 := y4.cell 0
                 have dy1 := y4.cell 1
                 have dy2 := y4.cell 2
                 have dy3 := y4.cell 3
                 have dy4 := y4.cell 4
                 simp at dy0 dy1 dy2 dy3 dy4
                 have gx0 := x4.frozen 0
                 have gx1 := x4.frozen 1
                 have gx2 := x4.frozen 2
                 have gx3 := x4.frozen 3
                 have gx4 := x4.frozen 4
                 have gy0 := y4.frozen 0
                 have gy1 := y4.frozen 1
                 have gy2 := y4.frozen 2
                 have gy3 := y4.frozen 3
                 have gy4 := y4.frozen 4
                 have lx4 := x4.lt
                 have ly4 := y4.lt
                 clear HU3))
            have R := (((((((x4.far (p := ⟨w.heap.size + 1, 3, none⟩) (by simp) (.string TG)).far (p := ⟨w.heap.size + 1, 4, none⟩) (by simp) (.string FR)).set_ 0 (.string ⟨#[]⟩)).set_ 1 (.int .u8 yy.fn)).set_ 2 (.int .i32 yy.arg)).set_ 3 (.string TG)).set_ 4 (.string FR))
            simp at R
            obtain ⟨d0, d1, d2, d3, d4⟩ := cells5 R
            have KF := (((((((K4.out.setCell (p := ⟨w.heap.size + 1, 3, none⟩) (by simp) (.string TG)).setCell (p := ⟨w.heap.size + 1, 4, none⟩) (by simp) (.string FR)).setCell (p := ⟨w.heap.size, 0, none⟩) (by simp) (.string ⟨#[]⟩)).setCell (p := ⟨w.heap.size, 1, none⟩) (by simp) (.int .u8 yy.fn)).setCell (p := ⟨w.heap.size, 2, none⟩) (by simp) (.int .i32 yy.arg)).setCell (p := ⟨w.heap.size, 3, none⟩) (by simp) (.string TG)).setCell (p := ⟨w.heap.size, 4, none⟩) (by simp) (.string FR))
            generalize (((((((w4.setCell ⟨w.heap.size + 1, 3, none⟩ (.string TG)).setCell ⟨w.heap.size + 1, 4, none⟩ (.string FR)).setCell ⟨w.heap.size, 0, none⟩ (.string ⟨#[]⟩)).setCell ⟨w.heap.size, 1, none⟩ (.int .u8 yy.fn)).setCell ⟨w.heap.size, 2, none⟩ (.int .i32 yy.arg)).setCell ⟨w.heap.size, 3, none⟩ (.string TG)).setCell ⟨w.heap.size, 4, none⟩ (.string FR)) = FW at *
            clear R
            refine bodyPost_ret (v := .agg #[(.string ⟨#[]⟩), (.int .u8 yy.fn), (.int .i32 yy.arg), (.string TG), (.string FR)]) (by simp [results, Tryd.results56, go_sem, d0, d1, d2, d3, d4]) rfl ⟨by rw [HPE.out, ← HTG.out, ← HFR.out]; rfl, KF⟩
end Go.Proofs.YtljeecocbcffcaaDoor
