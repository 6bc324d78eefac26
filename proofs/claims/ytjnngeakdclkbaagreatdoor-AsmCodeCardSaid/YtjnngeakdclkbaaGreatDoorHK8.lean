/- Texts that belong together, joined: what each one holds is told ahead of it. -/
import Derived.Test.YtjnngeakdclkbaaGreatDoorHK7
import Derived.Laws.IdiomStrings
import Derived.Test.YtjnngeakdclkbaaGreatDoorHK3
import Derived.Test.YtjnngeakdclkbaaGreatDoorHK2
import Derived.Test.YtjnngeakdclkbaaGreatDoorHK6
import Derived.Test.YtjnngeakdclkbaaGreatDoorHK5
import Derived.Lib.LaidTab
import Derived.Stop.LaidErr
import Derived.LaidMore
import Derived.Lay
import Derived.ProofKit
import Derived.OpenShut
import Derived.DataShut
set_option linter.unusedVariables false
set_option linter.unusedSimpArgs false
/- head of the laws, walked. -/
namespace Go.Proofs.YtjnngeakdclkbaaGreatDoor
open Go.RowKit Go.Maps Go.WideMaps Go.Shelf
set_option linter.unusedSimpArgs false
set_option linter.unusedVariables false

theorem RetLens.zero {ls : List LineL} {w w' : World} {e : Ending} (he : checkE ls = 0) (h : RetLens ls w e w') :
    Below w.heap.size w w' ∧ ∃ g, e = .returned (.tuple #[.slice (some ⟨g, 0, none⟩) ls.length ls.length, .int .i64 0]) ∧ Blk w' g 3 (ncells (fixL (opds ls))).toArray ∧ w.heap.size ≤ g := by
  refine ⟨h.1, ?_⟩
  rcases h.2 with h | h
  · exact h.2
  · exact absurd he h.1
theorem RetLens.not {ls : List LineL} {w w' : World} {e : Ending} (he : checkE ls ≠ 0) (h : RetLens ls w e w') :
    Below w.heap.size w w' ∧ e = .returned (.tuple #[.slice none 0 0, .int .i64 (checkE ls)]) := by
  refine ⟨h.1, ?_⟩
  rcases h.2 with h | h
  · exact absurd h.1 he
  · exact h.2
theorem RetAsm.zero {ls : List LineL} {w w' : World} {e : Ending} (he : checkE ls = 0) (h : RetAsm ls w e w') :
    Below w.heap.size w w' ∧ ∃ A c g, e = .returned (.tuple #[.slice A (codeL ls).length c, .slice (some ⟨g, 0, none⟩) ls.length ls.length, .int .i64 0]) ∧ w'.ownsRow w.heap.size 5 1 (.slice A (codeL ls).length c) (codeL ls).length (bcells (codeL ls)) ∧
      Blk w' g 3 (ncells (adrs (fixL (opds ls)) ls.length)).toArray ∧ w.heap.size ≤ g := by
  refine ⟨h.1, ?_⟩
  rcases h.2 with h | h
  · exact h.2
  · exact absurd he h.1
theorem RetAsm.not {ls : List LineL} {w w' : World} {e : Ending} (he : checkE ls ≠ 0) (h : RetAsm ls w e w') :
    Below w.heap.size w w' ∧ e = .returned (.tuple #[.slice none 0 0, .slice none 0 0, .int .i64 (checkE ls)]) := by
  refine ⟨h.1, ?_⟩
  rcases h.2 with h | h
  · exact absurd h.1 he
  · exact h.2
theorem conv_back {w : World} {B n c : Nat} {A : Option Addr} {l : List UInt8} (h : Reads w B 1 A n (bcells l)) : (convert 35 9 (.slice A n c)).run Tryz.prog w = .ok (.string (strB l)) w := by
  have hl := h.1
  rw [bcells_len] at hl
  obtain rfl : n = l.length := by omega
  by_cases h0 : l = []
  · subst h0
    rw [List.length_nil, run_convert_bytes_string w _ _ _ A 0 c Tryz.underlying35 Tryz.underlying5 Tryz.underlying9]
    cases A <;> simp [Conv.bytesToString, loadCells]
    all_goals rfl
  · obtain ⟨ad, rfl, -, hc⟩ := h.2 (by cases l with | nil => exact absurd rfl h0 | cons => simp)
    exact run_convert_bytes_back w _ _ _ ad c l Tryz.underlying35 Tryz.underlying5 Tryz.underlying9 (fun j hj => hc j _ (bcells_get (List.getElem?_eq_getElem hj)))
set_option maxRecDepth 100000 in
set_option maxHeartbeats 8000000 in
theorem lHead (B : Nat) (w : World) (hL : Laid5 B w) (hm : MaxAt B w) (hB : B ≤ w.heap.size) (hgB : 1 < B) :
    Calls Tryz.prog 6 #[] w (RetV (.bool true) w) := by
  have S := Lib.hid (S6.start hL hm hB)
  have hl4 : sampleL.length = 4 := rfl
  have hl1 : (sampleL.take 1).length = 1 := rfl
  have hl2 : (sampleL.drop 2).length = 2 := rfl
  have HL1 := Lib.hid (fun A (w1 : World) (h1 : Laid5 B w1) (h2 : B ≤ w1.heap.size) hr => (pLengths sampleL sample_ok (by decide) A 4 B w1 hr h1 h2).mono fun e w' h => h.zero sample_check)
  have HA1 := Lib.hid (fun A (w1 : World) (h1 : Laid5 B w1) (h2 : B ≤ w1.heap.size) hr => (pAssemble sampleL sample_ok (by decide) A 4 B w1 hr h1 h2).mono fun e w' h => h.zero sample_check)
  have HL2 := Lib.hid (fun A (w1 : World) (h1 : Laid5 B w1) (h2 : B ≤ w1.heap.size) hr => (pLengths (sampleL.take 1) (fun x hx => sample_ok x (List.mem_of_mem_take hx)) (by decide) A 4 B w1 hr h1 h2).mono fun e w' h => h.not (by rw [sample_check1]; decide))
  have HT1 := Lib.hid (fun A (w1 : World) (h1 : Laid5 B w1) (h2 : B ≤ w1.heap.size) hr => pTextL (sampleL.drop 2) (fun x hx => sample_ok x (List.mem_of_mem_drop hx)) (by decide) A 2 B w1 hr h1 h2)
  have HR1 := Lib.hid (fun (w1 : World) (h1 : Laid5 B w1) (h2 : MaxAt B w1) (h3 : B ≤ w1.heap.size) => pReadL [98, 58, 32, 106, 32, 97, 10, 108, 100, 99, 32, 98, 45, 97, 10] (by decide) B w1 h1 h2 h3 hgB)
  unfold RetTx at HT1
  unfold RetRd at HR1
  rw [sample_fix] at HL1
  rw [hl4] at HL1 HA1
  rw [sample_code, sample_adrs] at HA1
  rw [hl1, sample_check1] at HL2
  rw [if_pos sample_all, hl2, sample_text] at HT1
  rw [show ([98, 58, 32, 106, 32, 97, 10, 108, 100, 99, 32, 98, 45, 97, 10] : List UInt8).length + 1 = 16 from rfl, sample_read] at HR1
  simp only [hl2] at HR1
  have hsb : strB [98, 58, 32, 106, 32, 97, 10, 108, 100, 99, 32, 98, 45, 97, 10] = ⟨#[98, 58, 32, 106, 32, 97, 10, 108, 100, 99, 32, 98, 45, 97, 10]⟩ := rfl
  rw [hsb] at HR1 HT1
  rw [show ([3, 33, 34, 76, 96, 10, 68] : List UInt8).length = 7 from rfl] at HA1
  clear hsb
  clear hL hm hB hl4 hl1 hl2
  go_enter Tryz.func6, Tryz.ntmps6
  go_upto_region 8 with (first
    | (go_at_call 16; (refine (lSample w).mono ?_); rintro e w1 ⟨rfl, rfl⟩
       have S1 := Lib.hid (S.out.alloc (.cells (linesL sampleL).toArray 51))
       have r1 := sample_reads w
       generalize w.alloc (.cells (linesL sampleL).toArray 51) = W1 at *
       have R1 := Lib.hid r1
       clear r1 S)
    | (go_at_call 8; (with_reducible refine (HL1.out _ _ S1.out.l S1.out.b R1.out).mono ?_); rintro e w2 ⟨hb2, gn, rfl, hn2, hgn⟩
       have S2 := Lib.hid (S1.out.call hb2)
       have N3 := Lib.hid (hn2.alloc (.cells (linesL sampleL).toArray 51))
       have S3 := Lib.hid (S2.out.alloc (.cells (linesL sampleL).toArray 51))
       have r3 := sample_reads w2
       have hs3 := lSample w2
       clear HL1 R1 S1 hn2 hb2)
    | (go_at_call 16; (with_reducible refine hs3.mono ?_); clear hs3; rintro e w3 ⟨rfl, rfl⟩
       generalize w2.alloc (.cells (linesL sampleL).toArray 51) = W3 at *
       have R3 := Lib.hid r3
       clear r3)
    | (go_at_call 14; (with_reducible refine (HA1.out _ _ S3.out.l S3.out.b R3.out).mono ?_); rintro e w4 ⟨hb4, ac, cc, ga, rfl, hc4, ha4, hga⟩
       have S4 := Lib.hid (S3.out.call hb4)
       have N5 := Lib.hid ((N3.out.call hb4).alloc (.cells (linesL sampleL).toArray 51))
       have C5 := Lib.hid (hc4.alloc (.cells (linesL sampleL).toArray 51))
       have A5 := Lib.hid (ha4.alloc (.cells (linesL sampleL).toArray 51))
       have S5' := Lib.hid (S4.out.alloc (.cells (linesL sampleL).toArray 51))
       have r5 := sample_reads1 w4
       have hs5 := lSample w4
       clear HA1 R3 S3 N3 hc4 ha4 hb4)
    | (go_at_call 16; (with_reducible refine hs5.mono ?_); clear hs5; rintro e w5 ⟨rfl, rfl⟩
       generalize w4.alloc (.cells (linesL sampleL).toArray 51) = W5 at *
       have R5 := Lib.hid r5
       clear r5)
    | (go_at_call 8; (with_reducible refine (HL2.out _ _ S5'.out.l S5'.out.b R5.out).mono ?_); rintro e w6 ⟨hb6, rfl⟩
       have S6' := Lib.hid (S5'.out.call hb6)
       have N7 := Lib.hid ((N5.out.call hb6).alloc (.cells (linesL sampleL).toArray 51))
       have C7 := Lib.hid ((C5.out.keep hb6 (Nat.le_refl _)).alloc (.cells (linesL sampleL).toArray 51))
       have A7 := Lib.hid ((A5.out.call hb6).alloc (.cells (linesL sampleL).toArray 51))
       have S7 := Lib.hid (S6'.out.alloc (.cells (linesL sampleL).toArray 51))
       have r7 := sample_reads2 w6
       have hs7 := lSample w6
       clear HL2 R5 S5' N5 C5 A5 hb6)
    | (go_at_call 16; (with_reducible refine hs7.mono ?_); clear hs7; rintro e w7 ⟨rfl, rfl⟩
       generalize w6.alloc (.cells (linesL sampleL).toArray 51) = W7 at *
       have R7 := Lib.hid r7
       clear r7)
    | (go_at_call 17; (with_reducible refine (HT1.out _ _ S7.out.l S7.out.b R7.out).mono ?_); rintro e w8 ⟨rfl, hb8⟩
       have S8 := Lib.hid (S7.out.call hb8)
       have N8 := Lib.hid (N7.out.call hb8)
       have C8 := Lib.hid (C7.out.keep hb8 (Nat.le_refl _))
       have A8 := Lib.hid (A7.out.call hb8)
       clear HT1 R7 S7 N7 C7 A7 hb8)
    | (go_at_call 18; (with_reducible refine (HR1.out _ S8.out.l S8.out.m S8.out.b).mono ?_); rintro e w9 ⟨hb9, al, cl, rfl, hl9⟩
       have S9 := Lib.hid (S8.out.call hb9)
       have N9 := Lib.hid (N8.out.call hb9)
       have C9 := Lib.hid (C8.out.keep hb9 (Nat.le_refl _))
       have A9 := Lib.hid (A8.out.call hb9)
       have S10 := Lib.hid (S9.out.alloc (.cells #[.int .i64 1, .int .i64 3, .int .i64 2, .int .i64 1] 3))
       have C10 := Lib.hid (C9.out.alloc (.cells #[.int .i64 1, .int .i64 3, .int .i64 2, .int .i64 1] 3))
       have A10 := Lib.hid (A9.out.alloc (.cells #[.int .i64 1, .int .i64 3, .int .i64 2, .int .i64 1] 3))
       have L10 := Lib.hid (hl9.alloc (.cells #[.int .i64 1, .int .i64 3, .int .i64 2, .int .i64 1] 3))
       have HI1 : Hid (Calls Tryz.prog 10 #[.slice (some ⟨gn, 0, none⟩) 4 4, .slice (some ⟨w9.heap.size, 0, none⟩) 4 4] (w9.alloc (.cells #[.int .i64 1, .int .i64 3, .int .i64 2, .int .i64 1] 3)) (RetV (.bool true) (w9.alloc (.cells #[.int .i64 1, .int .i64 3, .int .i64 2, .int .i64 1] 3)))) :=
         Lib.hid (sInts _ _ 4 4 4 4 [1, 3, 2, 1] [1, 3, 2, 1] _ (Reads.of_blk (N9.out.alloc (.cells #[.int .i64 1, .int .i64 3, .int .i64 2, .int .i64 1] 3)) rfl) (Reads.of_blk (xs := ncells [1, 3, 2, 1]) (Blk.new w9 3 #[.int .i64 1, .int .i64 3, .int .i64 2, .int .i64 1]) rfl) (by decide))
       clear HR1 S8 N8 C8 A8 hb9 hl9 S9 N9 C9 A9)
    | (go_at_call 10; (with_reducible refine HI1.out.mono ?_); rintro e w11 ⟨rfl, hb11⟩
       have S12 := Lib.hid ((S10.out.call hb11).alloc (.cells #[.int .i64 0, .int .i64 1, .int .i64 4, .int .i64 6] 3))
       have L12 := Lib.hid ((L10.out.keep hb11 (Nat.le_refl _)).alloc (.cells #[.int .i64 0, .int .i64 1, .int .i64 4, .int .i64 6] 3))
       have hcv : (convert 35 9 (.slice ac 7 cc)).run Tryz.prog w11 = .ok (.string ⟨#[3, 33, 34, 76, 96, 10, 68]⟩) w11 := conv_back (Reads.of_own (C10.out.keep hb11 (Nat.le_refl _)))
       have HI2 : Hid (Calls Tryz.prog 10 #[.slice (some ⟨ga, 0, none⟩) 4 4, .slice (some ⟨w11.heap.size, 0, none⟩) 4 4] (w11.alloc (.cells #[.int .i64 0, .int .i64 1, .int .i64 4, .int .i64 6] 3)) (RetV (.bool true) (w11.alloc (.cells #[.int .i64 0, .int .i64 1, .int .i64 4, .int .i64 6] 3)))) :=
         Lib.hid (sInts _ _ 4 4 4 4 [0, 1, 4, 6] [0, 1, 4, 6] _ (Reads.sub ((A10.out.call hb11).alloc (.cells #[.int .i64 0, .int .i64 1, .int .i64 4, .int .i64 6] 3)) 0 4 1 (by decide)) (Reads.of_blk (xs := ncells [0, 1, 4, 6]) (Blk.new w11 3 #[.int .i64 0, .int .i64 1, .int .i64 4, .int .i64 6]) rfl) (by decide))
       clear HI1 C10 A10 S10 L10 hb11)
    | (go_at_call 10; (with_reducible refine HI2.out.mono ?_); rintro e w13 ⟨rfl, hb13⟩
       have S14 := Lib.hid ((S12.out.call hb13).alloc (.cells (linesL sampleL).toArray 51))
       have L14 := Lib.hid ((L12.out.keep hb13 (Nat.le_refl _)).alloc (.cells (linesL sampleL).toArray 51))
       have r14 := sample_reads2 w13
       have hs14 := lSample w13
       clear HI2 S12 L12 hb13)
    | (go_at_call 16; (with_reducible refine hs14.mono ?_); clear hs14; rintro e w14 ⟨rfl, rfl⟩
       generalize w13.alloc (.cells (linesL sampleL).toArray 51) = W14 at *
       have HI3 := Lib.hid (sLines _ _ 2 cl 2 2 _ _ _ (Reads.of_own L14.out) r14 (by decide))
       rw [decide_eq_true rfl] at HI3
       clear r14 L14)
    | (go_at_call 11; (with_reducible refine HI3.out.mono ?_); clear HI3; rintro e w15 ⟨rfl, hb15⟩
       have S16 := Lib.hid ((S14.out.call hb15).alloc (.cells (linesL sampleL).toArray 51))
       have r16 := sample_reads w15
       have hs16 := lSample w15
       clear S14 hb15)
    | (go_at_call 16; (with_reducible refine hs16.mono ?_); clear hs16; rintro e w16 ⟨rfl, rfl⟩
       generalize w15.alloc (.cells (linesL sampleL).toArray 51) = W16 at *
       have HI4 := Lib.hid (pMayL sampleL sample_ok (by decide) _ 4 B W16 r16 S16.out.l S16.out.b)
       rw [sample_check, show sampleL.length = 4 from rfl] at HI4
       clear r16)
    | (go_at_call 12; (with_reducible refine HI4.out.mono ?_); clear HI4; rintro e w17 ⟨rfl, hb17⟩
       have K17 := Lib.hid (S16.out.call hb17).k))
  go_ret
  exact ⟨rfl, K17.out⟩
end Go.Proofs.YtjnngeakdclkbaaGreatDoor

/- The reference's encoding, walked. -/
namespace Go.Proofs.YtjnngeakdclkbaaGreatDoor
open Go.RowKit Go.Maps Go.WideMaps Go.Shelf
set_option linter.unusedSimpArgs false
set_option linter.unusedVariables false

theorem rValid04 (fn : Nat) (v : Int) (w : World) : Calls Tryz.prog 40 #[.agg #[.int .u8 fn, .int .i32 v]] w (RetV (.bool (codeB fn)) w) := by
  have k0 : Below w.heap.size w (w.alloc (.cells #[.int .u8 fn, .int .i32 v] 62)) := (Below.refl _ _).alloc (Nat.le_refl _) _
  have b0 := Blk.new w 62 #[.int .u8 fn, .int .i32 v]
  have hc : codeB fn = (decide ((fn : Int) < 16) && (!((fn : Int) == 2) && !((fn : Int) == 6))) := by
    have h1 : decide ((fn : Int) < 16) = decide (fn ≤ 15) := by rw [decide_eq_decide]; omega
    have h2 : ((fn : Int) == 2) = (fn == 2) := by rw [Bool.eq_iff_iff]; simp; omega
    have h3 : ((fn : Int) == 6) = (fn == 6) := by rw [Bool.eq_iff_iff]; simp; omega
    rw [h1, h2, h3, codeB, Bool.and_assoc]
  go_enter Tryz.func40, Tryz.ntmps40
  by_cases h1 : (fn : Int) < 16
  · by_cases h2 : ((fn : Int) != 2) = true
    · go_wp2
      refine bodyPost_ret (v := .bool ((fn : Int) != 6)) (by simp [results, Tryz.results40, go_sem]) rfl ⟨?_, k0⟩
      rw [hc]
      have e1 : ((fn : Int) == 2) = false := by simpa using h2
      rw [e1, decide_eq_true h1]; rfl
    · have h2 : ((fn : Int) != 2) = false := by simpa using h2
      go_wp2
      refine bodyPost_ret (v := .bool false) (by simp [results, Tryz.results40, go_sem]) rfl ⟨?_, k0⟩
      rw [hc]
      have e1 : ((fn : Int) == 2) = true := by simpa using h2
      rw [e1, decide_eq_true h1]; rfl
  · rw [hc]
    go_wp2
    refine bodyPost_ret (v := .bool false) (by simp [results, Tryz.results40, go_sem]) rfl ⟨?_, k0⟩
    have e1 : decide ((fn : Int) < 16) = false := by simpa using h1
    rw [e1]; rfl
set_option maxRecDepth 100000 in
set_option maxHeartbeats 2000000 in
theorem rEnc_last (fn m : Nat) (w : World) (hf : fn ≤ 15) (hm : m < 16) :
    Calls Tryz.prog 41 #[.int .i64 fn, .int .i64 m] w (RetRow 5 1 1 (bcells [UInt8.ofNat (16 * fn + m % 16)]) w) := by
  obtain ⟨i0, hi0, hz0, hz1, hz2⟩ := info_parts byte_info
  have h1 : ¬ (m : Int) < 0 := by omega
  have h2 : ¬ 16 ≤ (m : Int) := by omega
  have e1 : bcells [UInt8.ofNat (16 * fn + m % 16)] = [.int .u8 (16 * (fn : Int) + (m : Int) % 16)] := by
    show [Value.int .u8 ((UInt8.ofNat (16 * fn + m % 16)).toNat : Int)] = _
    rw [UInt8.toNat_ofNat']
    congr 2; omega
  rw [e1]
  have b0 := Blk.new w 5 #[.int .u8 (16 * (fn : Int) + (m : Int) % 16)]
  have hn0 : (w.alloc (.cells #[.int .u8 (16 * (fn : Int) + (m : Int) % 16)] 5)).ownsRow w.heap.size 5 1 (.slice none 0 0) 0 [] := World.ownsRow_nil _ _ _ _
  have HN0 := Lib.hid hn0
  have k0 : Below w.heap.size w (w.alloc (.cells #[.int .u8 (16 * (fn : Int) + (m : Int) % 16)] 5)) := (Below.refl _ _).alloc (Nat.le_refl _) _
  clear hn0 e1
  go_enter Tryz.func41, Tryz.ntmps41
  go_wp2_with (at_builtin; refine wpList_app_own rfl (.tmp 17) (.tmp 26) rfl Tryz.underlying35 hi0 hz0 hz1 hz2 rfl (by decide) HN0.out (by simp) rfl w.heap.size 1 1 #[.int .u8 (16 * (fn : Int) + (m : Int) % 16)] rfl b0 rfl (by simp [Value.oneCell']) (by omega) (by omega) ?_; intro v' w' hown hg hb)
  go_ret
  exact RetRow.mk hown (Nat.le_refl _) (k0.trans hb)
set_option maxRecDepth 100000 in
set_option maxHeartbeats 2000000 in
theorem rEnc_pos : ∀ (k fn m : Nat) (w : World), k ≤ 8 → fn ≤ 15 → m < 16 ^ (k + 1) → m < 2147483648 →
    Calls Tryz.prog 41 #[.int .i64 fn, .int .i64 m] w (RetRow 5 1 (encF k fn m).length (bcells (encF k fn m)) w) := by
  intro k
  induction k with
  | zero =>
    intro fn m w hk hf hm h31
    have hm : m < 16 := by simpa using hm
    exact rEnc_last fn m w hf hm
  | succ k ih =>
    intro fn m w hk hf hm h31
    by_cases h16 : m < 16
    · rw [enc_last h16]
      exact rEnc_last fn m w hf h16
    obtain ⟨i0, hi0, hz0, hz1, hz2⟩ := info_parts byte_info
    have HI := Lib.hid (ih 2 (m / 16) w (by omega) (by decide) (by rw [Nat.pow_succ] at hm; omega) (by omega))
    have hl := encF_le k 2 (m / 16)
    rw [enc_step (by omega), bcells_append, List.length_append]
    clear ih
    generalize encF k 2 (m / 16) = l0 at *
    have h1 : ¬ (m : Int) < 0 := by omega
    have h2 : 16 ≤ (m : Int) := by omega
    have e1 : bcells [UInt8.ofNat (16 * fn + m % 16)] = [.int .u8 (16 * (fn : Int) + (m : Int) % 16)] := by
      show [Value.int .u8 ((UInt8.ofNat (16 * fn + m % 16)).toNat : Int)] = _
      rw [UInt8.toNat_ofNat']
      congr 2; omega
    have e2 : [UInt8.ofNat (16 * fn + m % 16)].length = 1 := rfl
    rw [e1, e2]
    have hdiv : ((m / 16 : Nat) : Int) = (m : Int) / 16 := by omega
    rw [hdiv] at HI
    rw [show ((2 : Nat) : Int) = 2 from rfl] at HI
    clear hdiv e1 e2
    go_enter Tryz.func41, Tryz.ntmps41
    go_wp2_with (first
      | (go_at_call 41; refine HI.out.mono ?_; rintro e w1 ⟨v1, rfl, hown1, hb1⟩
         have b0 := Blk.new w1 5 #[.int .u8 (16 * (fn : Int) + (m : Int) % 16)]
         have HO1 := Lib.hid (hown1.alloc (.cells #[.int .u8 (16 * (fn : Int) + (m : Int) % 16)] 5))
         have k0 : Below w.heap.size w (w1.alloc (.cells #[.int .u8 (16 * (fn : Int) + (m : Int) % 16)] 5)) := hb1.alloc hb1.size _
         have hsz := hb1.size)
      | (at_builtin; refine wpList_app_own rfl (.tmp 17) (.tmp 26) rfl Tryz.underlying35 hi0 hz0 hz1 hz2 rfl (by decide) HO1.out (by simp; omega) rfl w1.heap.size 1 1 #[.int .u8 (16 * (fn : Int) + (m : Int) % 16)] rfl b0 rfl (by simp [Value.oneCell']) (by omega) (by omega) ?_; intro v' w' hown hg hb))
    go_ret
    exact RetRow.mk hown (Nat.le_refl _) (k0.trans hb)
set_option maxRecDepth 100000 in
set_option maxHeartbeats 2000000 in
theorem rEnc (fn : Nat) (v : Int) (w : World) (hf : fn ≤ 15) (hv : is32 v) :
    Calls Tryz.prog 41 #[.int .i64 fn, .int .i64 v] w (RetRow 5 1 (lenV v) (bcells (encI fn v)) w) := by
  rw [← encI_len fn v]
  unfold is32 at hv
  by_cases hneg : v < 0
  · obtain ⟨i0, hi0, hz0, hz1, hz2⟩ := info_parts byte_info
    have h16 : (16 : Nat) ^ (8 + 1) = 68719476736 := by decide
    have HI := Lib.hid (rEnc_pos 8 6 ((-1 - v) / 16).toNat w (by omega) (by decide) (by omega) (by omega))
    rw [show ((6 : Nat) : Int) = 6 from rfl] at HI
    clear h16
    have hl := encF_le 8 6 ((-1 - v) / 16).toNat
    have e0 : encI fn v = encF 8 6 ((-1 - v) / 16).toNat ++ [UInt8.ofNat (16 * fn + (v % 16).toNat)] := by rw [encI, if_pos hneg]
    rw [e0, bcells_append, List.length_append]
    have hdiv : ((((-1 - v) / 16).toNat : Nat) : Int) = (-1 - v) / 16 := by omega
    rw [hdiv] at HI
    clear hdiv e0
    generalize encF 8 6 ((-1 - v) / 16).toNat = l0 at *
    have h1 : v < 0 := hneg
    have h2 : ¬ 16 ≤ v := by omega
    obtain ⟨t, ht⟩ : ∃ t, v.tmod 16 = t := ⟨_, rfl⟩
    have htb : -15 ≤ t ∧ t ≤ 0 ∧ t % 16 = v % 16 := by
      have e1 : v.tmod 16 = -((-v) % 16) := by
        have := Int.neg_tmod (-v) 16
        rw [Int.neg_neg] at this
        rw [this, Int.tmod_eq_emod_of_nonneg (by omega)]
      omega
    obtain ⟨t1, t2, t3⟩ := htb
    have e1 : bcells [UInt8.ofNat (16 * fn + (v % 16).toNat)] = [.int .u8 (16 * (fn : Int) + t % 16)] := by
      show [Value.int .u8 ((UInt8.ofNat (16 * fn + (v % 16).toNat)).toNat : Int)] = _
      rw [UInt8.toNat_ofNat']
      congr 2; omega
    have e2 : [UInt8.ofNat (16 * fn + (v % 16).toNat)].length = 1 := rfl
    rw [e1, e2]
    clear e1 e2 t3
    go_enter Tryz.func41, Tryz.ntmps41
    go_wp2_with (first
      | (go_at_call 41; refine HI.out.mono ?_; rintro e w1 ⟨v1, rfl, hown1, hb1⟩
         have b0 := Blk.new w1 5 #[.int .u8 (16 * (fn : Int) + t % 16)]
         have HO1 := Lib.hid (hown1.alloc (.cells #[.int .u8 (16 * (fn : Int) + t % 16)] 5))
         have k0 : Below w.heap.size w (w1.alloc (.cells #[.int .u8 (16 * (fn : Int) + t % 16)] 5)) := hb1.alloc hb1.size _
         have hsz := hb1.size)
      | (at_builtin; refine wpList_app_own rfl (.tmp 17) (.tmp 26) rfl Tryz.underlying35 hi0 hz0 hz1 hz2 rfl (by decide) HO1.out (by simp; omega) rfl w1.heap.size 1 1 #[.int .u8 (16 * (fn : Int) + t % 16)] rfl b0 rfl (by simp [Value.oneCell']) (by omega) (by omega) ?_; intro v' w' hown hg hb))
    go_ret
    exact RetRow.mk hown (Nat.le_refl _) (k0.trans hb)
  · have e : encI fn v = encF 8 fn v.toNat := by rw [encI, if_neg hneg]
    have h16 : (16 : Nat) ^ (8 + 1) = 68719476736 := by decide
    have := rEnc_pos 8 fn v.toNat w (by omega) hf (by omega) (by omega)
    rw [e]
    rwa [show ((v.toNat : Nat) : Int) = v by omega] at this
set_option maxRecDepth 100000 in
set_option maxHeartbeats 2000000 in
theorem rPut04 (fn : Nat) (v : Int) (hv : is32 v) (hc : codeB fn = true) (w : World) : Calls Tryz.prog 27 #[.agg #[.int .u8 fn, .int .i32 v]] w (RetP fn v w) := by
  have k0 : Below w.heap.size w (w.alloc (.cells #[.int .u8 fn, .int .i32 v] 62)) := (Below.refl _ _).alloc (Nat.le_refl _) _
  have b0 := Blk.new w 62 #[.int .u8 fn, .int .i32 v]
  obtain ⟨w0, hw0⟩ : ∃ w0, w.alloc (.cells #[.int .u8 fn, .int .i32 v] 62) = w0 := ⟨_, rfl⟩
  rw [hw0] at k0 b0
  have HV := Lib.hid (rValid04 fn v w0)
  rw [hc] at HV
  have h1 : fn ≤ 15 := by simp [codeB] at hc; omega
  have HP2 := Lib.hid (fun w => (rEnc fn v w h1 hv))
  clear hc
  obtain ⟨v0, v1⟩ := hv
  have c00 := b0.cell 0
  have c01 := b0.cell 1
  simp at c00 c01
  go_enter Tryz.func27, Tryz.ntmps27
  go_wp2_with (first
      | (go_at_call 40; refine HV.out.mono ?_; rintro e w1 ⟨rfl, hb1⟩
         have k1 := k0.trans (hb1.mono k0.size)
         have b1 := b0.call hb1
         have c10 := b1.cell 0
         have c11 := b1.cell 1
         simp at c10 c11)
      | (go_at_call 41; with_reducible refine (HP2.out _).mono ?_; intro e w2 hret; obtain ⟨A2, c2, rfl, hown2, hb2, hle2⟩ := hret.cell; have k2 := k1.trans (hb2.mono k1.size)))
  go_ret2
  exact ⟨A2, c2, rfl, (World.ownsRow.weak hown2 k1.size), k2, hle2⟩
set_option maxRecDepth 100000 in
theorem rLen04 (fn : Nat) (v : Int) (hv : is32 v) (hc : codeB fn = true) (w : World) : Calls Tryz.prog 36 #[.agg #[.int .u8 fn, .int .i32 v]] w (RetV (.int .i64 (lenV v : Nat)) w) := by
  have k0 : Below w.heap.size w (w.alloc (.cells #[.int .u8 fn, .int .i32 v] 62)) := (Below.refl _ _).alloc (Nat.le_refl _) _
  have b0 := Blk.new w 62 #[.int .u8 fn, .int .i32 v]
  obtain ⟨w0, hw0⟩ : ∃ w0, w.alloc (.cells #[.int .u8 fn, .int .i32 v] 62) = w0 := ⟨_, rfl⟩
  rw [hw0] at k0 b0
  have HP := Lib.hid (rPut04 fn v hv hc w0)
  have hl := lenV_le hv
  clear hc
  obtain ⟨v0, v1⟩ := hv
  have c00 := b0.cell 0
  have c01 := b0.cell 1
  simp at c00 c01
  go_enter Tryz.func36, Tryz.ntmps36
  go_wp2_with (first
      | (go_at_call 27; refine HP.out.mono ?_; rintro e w2 ⟨A2, c2, rfl, hown2, hb2, hle2⟩; have k2 := k0.trans (hb2.mono k0.size)))
  go_ret
  exact ⟨rfl, k2⟩
end Go.Proofs.YtjnngeakdclkbaaGreatDoor

/- Operand and Need of the reference, walked. -/
namespace Go.Proofs.YtjnngeakdclkbaaGreatDoor
open Go.RowKit Go.Maps Go.WideMaps Go.Shelf
set_option linter.unusedSimpArgs false
set_option linter.unusedVariables false

set_option maxRecDepth 100000 in
set_option maxHeartbeats 2000000 in
theorem rOperand (ls : List LineL) {i : Nat} {x : LineL} (hx : ls[i]? = some x) (hn : ls.length ≤ 4096) {L : List Nat} (hLl : L.length = ls.length) (h9 : ∀ i, L.getD i 0 ≤ 9) (A A2 : Option Addr) (c c2 : Nat) (w : World)
    (hr : Reads w w.heap.size 5 A ls.length (linesL ls)) (hr2 : Reads w w.heap.size 1 A2 ls.length (ncells L)) :
    Calls Tryz.prog 28 #[.slice A (ls.length : Nat) c, .slice A2 (ls.length : Nat) c2, .int .i64 (i : Int)] w (RetV (.int .i32 (valO L (opdL ls i x))) w) := by
  have hi := (List.getElem?_eq_some_iff.1 hx).1
  obtain ⟨b, off, x', rfl, hb, hx', c0, c1, c2', c3, c4⟩ := lines_at hr hi
  rw [hx] at hx'
  obtain rfl := Option.some.inj hx'
  clear hx'
  obtain ⟨bl, ol, n, rfl, hbl, hnx, d0⟩ := nums_at hr2 hi
  have a9 := adr_le9 h9
  have HA := Lib.hid (fun (j : Int) (hj : j ≤ (ls.length : Nat)) w hr => rAddress L h9 (some ⟨bl, ol, none⟩) ls.length c2 j hj w hr (by omega))
  have HT := Lib.hid (fun w hr => rAt ls x.target (some ⟨b, off, none⟩) ls.length c w hr (by omega))
  have HF := Lib.hid (fun w hr => rAt ls x.frm (some ⟨b, off, none⟩) ls.length c w hr (by omega))
  have b0 := Blk.new w 51 (lineC x)
  have R0 := hr.alloc' (.cells (lineC x) 51)
  have L0 := hr2.alloc' (.cells (lineC x) 51)
  have k0 : Below w.heap.size w (w.alloc (.cells (lineC x) 51)) := (Below.refl _ _).alloc (Nat.le_refl _) _
  have eT := strB_empty x.target
  have eF := strB_empty x.frm
  have hvT : x.target.isEmpty = true → valO L (opdL ls i x) = x.arg := fun h => by unfold opdL; rw [if_pos h]; rfl
  have hvF : x.target.isEmpty = false → valO L (opdL ls i x) = (adr L ((atL ls x.target).getD 0) : Int) - adr L (if x.frm.isEmpty then i + 1 else (atL ls x.frm).getD 0) := fun h => by unfold opdL; rw [if_neg (by rw [h]; decide)]; rfl
  generalize valO L (opdL ls i x) = res at *
  have hs1 : adr L (i + 1) = adr L i + n := by rw [adr, List.getD_eq_getElem?_getD, hnx]; rfl
  have hTI := atI_toNat (ls := ls) (nm := x.target)
  have hFI := atI_toNat (ls := ls) (nm := x.frm)
  have jT : atI ls x.target ≤ (ls.length : Nat) := by
    have := atL_getD_le (ls := ls) x.target
    rw [← hTI] at this; omega
  have jF : atI ls x.frm ≤ (ls.length : Nat) := by
    have := atL_getD_le (ls := ls) x.frm
    rw [← hFI] at this; omega
  rw [← hTI, ← hFI] at hvF
  have hv1 : x.target.isEmpty = false → x.frm.isEmpty = true → res = (adr L (atI ls x.target).toNat : Int) - ((adr L i : Int) + n) := fun h hz => by rw [hvF h, if_pos hz, hs1]; simp
  have hv2 : x.target.isEmpty = false → x.frm.isEmpty = false → res = (adr L (atI ls x.target).toNat : Int) - (adr L (atI ls x.frm).toNat : Int) := fun h hz => by rw [hvF h, if_neg (by rw [hz]; decide)]
  clear hTI hFI hx hvF
  have HAT := Lib.hid (fun w hr => HA.out _ jT w hr)
  have HAF := Lib.hid (fun w hr => HA.out _ jF w hr)
  have HAI := Lib.hid (fun w hr => HA.out (i : Int) (by omega) w hr)
  rw [show ((i : Int)).toNat = i from Int.toNat_natCast i] at HAI
  have z1 := a9 (atI ls x.target).toNat
  have z2 := a9 (atI ls x.frm).toNat
  have z3 := a9 i
  have hn9 := h9 i
  rw [List.getD_eq_getElem?_getD, hnx] at hn9
  simp only [Option.getD_some] at hn9
  have i1 : i < 4096 := by omega
  have y1 : (atI ls x.target).toNat ≤ 4096 := by omega
  have y2 : (atI ls x.frm).toNat ≤ 4096 := by omega
  generalize atI ls x.target = qT at *
  generalize atI ls x.frm = qF at *
  generalize adr L qT.toNat = vT at *
  generalize adr L qF.toNat = vF at *
  generalize adr L i = vI at *
  have HVT := Lib.hid hvT
  have HV1 := Lib.hid hv1
  have HV2 := Lib.hid hv2
  have HR0 := Lib.hid R0
  have HL0 := Lib.hid L0
  have K0 := Lib.hid k0
  simp only [lineC] at b0 HR0 HL0 K0
  generalize strB x.target = ST at *
  generalize strB x.frm = SF at *
  generalize strB x.label = SL at *
  obtain ⟨W, hW⟩ : ∃ W, w.alloc (.cells #[.string SL, .int .u8 x.fn, .int .i32 x.arg, .string ST, .string SF] 51) = W := ⟨_, rfl⟩
  rw [hW] at b0 HR0 HL0 K0
  have e0 : W.cell? ⟨bl, ol + i, none⟩ = some (.int .i64 n) := (K0.out.cell hbl).trans d0
  have hiI : (i : Int) < (ls.length : Nat) := by omega
  clear hvT hv1 hv2 R0 L0 k0 a9 h9 hs1 hr hr2 HA hLl jT jF hnx
  go_enter Tryz.func28, Tryz.ntmps28
  go_upto_region 2 with (fail)
  have g0 := b0.cell 0
  have g1 := b0.cell 1
  have g2 := b0.cell 2
  have g3 := b0.cell 3
  have g4 := b0.cell 4
  simp at g0 g1 g2 g3 g4
  cases zt : x.target.isEmpty with
  | true =>
    rw [zt] at eT HVT
    have e := HVT.out rfl
    subst e
    go_wp2
    go_ret
    exact ⟨rfl, K0.out⟩
  | false =>
    rw [zt] at eT
    have HL1 := Lib.hid (show Reads W.drew W.drew.heap.size 1 (some ⟨bl, ol, none⟩) ls.length (ncells L) from HL0.out)
    have hbW : bl < W.drew.heap.size := by have := K0.out.size; simp; omega
    have e0d : W.drew.cell? ⟨bl, ol + i, none⟩ = some (.int .i64 n) := e0
    have b0d := b0.drew
    have KD : Below w.heap.size w W.drew := K0.out.drew
    have hn2 : ls.length ≤ 4096 := hn
    cases zf : x.frm.isEmpty with
    | true =>
      rw [zf] at eF
      have HE := Lib.hid (HV1.out zt zf)
      clear HVT HV1 HV2 zt zf
      go_upto_region 4 with (fail)
      go_region_held3 (fun w' => w'.cell? ⟨bl, ol + i, none⟩ = some (.int .i64 n)) (first | exact e0d | exact (hb1.cell hbW).trans e0d)
        ((go_at_call 21; (with_reducible refine (HAI.out _ HL1.out).mono ?_); rintro e w1 ⟨rfl, hb1⟩))
      have b1 := b0d.call hb1
      have K1 := Lib.hid (KD.trans (hb1.mono KD.size))
      have R1 := Lib.hid ((HR0.out.drew.below hb1).more hb1.size)
      have L1 := Lib.hid ((HL1.out.below hb1).more hb1.size)
      have h0 := b1.cell 0
      have h1 := b1.cell 1
      have h2 := b1.cell 2
      have h3 := b1.cell 3
      have h4 := b1.cell 4
      simp at h0 h1 h2 h3 h4
      go_wp2_with (first
        | (go_at_call 24; (with_reducible refine (HT.out _ R1.out).mono ?_); rintro e w2 ⟨rfl, hb2⟩
           have K2 := Lib.hid (K1.out.trans (hb2.mono K1.out.size))
           have L2 := Lib.hid ((L1.out.below hb2).more hb2.size))
        | (go_at_call 21; (with_reducible refine (HAT.out _ L2.out).mono ?_); rintro e w3 ⟨rfl, hb3⟩
           have K3 := Lib.hid (K2.out.trans (hb3.mono K2.out.size))))
      go_ret
      exact ⟨by rw [HE.out]; rfl, K3.out⟩
    | false =>
      rw [zf] at eF
      have HE := Lib.hid (HV2.out zt zf)
      clear HVT HV1 HV2 zt zf
      go_upto_region 4 with (fail)
      go_region_held3 (fun w' => w'.cell? ⟨bl, ol + i, none⟩ = some (.int .i64 n)) (first | exact e0d | exact (hb1.cell hbW).trans e0d)
        ((go_at_call 21; (with_reducible refine (HAI.out _ HL1.out).mono ?_); rintro e w1 ⟨rfl, hb1⟩))
      have b1 := b0d.call hb1
      have K1 := Lib.hid (KD.trans (hb1.mono KD.size))
      have R1 := Lib.hid ((HR0.out.drew.below hb1).more hb1.size)
      have L1 := Lib.hid ((HL1.out.below hb1).more hb1.size)
      have h0 := b1.cell 0
      have h1 := b1.cell 1
      have h2 := b1.cell 2
      have h3 := b1.cell 3
      have h4 := b1.cell 4
      simp at h0 h1 h2 h3 h4
      clear HAI
      go_wp2_with (first
        | (go_at_call 24; (with_reducible refine (HF.out _ R1.out).mono ?_); rintro e w2 ⟨rfl, hb2⟩
           have K2 := Lib.hid (K1.out.trans (hb2.mono K1.out.size))
           have b2 := b1.call hb2
           have R2 := Lib.hid ((R1.out.below hb2).more hb2.size)
           have L2 := Lib.hid ((L1.out.below hb2).more hb2.size)
           clear HF R1)
        | (go_at_call 21; (with_reducible refine (HAF.out _ L2.out).mono ?_); rintro e w3 ⟨rfl, hb3⟩
           have K3 := Lib.hid (K2.out.trans (hb3.mono K2.out.size))
           have b3 := b2.call hb3
           have j3 := b3.cell 3
           simp at j3
           have R3 := Lib.hid ((R2.out.below hb3).more hb3.size)
           have L3 := Lib.hid ((L2.out.below hb3).more hb3.size)
           clear HAF L2 R2)
        | (go_at_call 24; (with_reducible refine (HT.out _ R3.out).mono ?_); rintro e w4 ⟨rfl, hb4⟩
           have K4 := Lib.hid (K3.out.trans (hb4.mono K3.out.size))
           have L4 := Lib.hid ((L3.out.below hb4).more hb4.size)
           clear HT R3)
        | (go_at_call 21; (with_reducible refine (HAT.out _ L4.out).mono ?_); rintro e w5 ⟨rfl, hb5⟩
           have K5 := Lib.hid (K4.out.trans (hb5.mono K4.out.size))))
      go_ret
      exact ⟨by rw [HE.out]; rfl, K5.out⟩
end Go.Proofs.YtjnngeakdclkbaaGreatDoor

/- Need of the reference, walked. -/
namespace Go.Proofs.YtjnngeakdclkbaaGreatDoor
open Go.RowKit Go.Maps Go.WideMaps Go.Shelf
set_option linter.unusedSimpArgs false
set_option linter.unusedVariables false

theorem val9_is32 {os : List Opd} (hf : Fit os) {L : List Nat} (h : ∀ i, L.getD i 0 ≤ 9) {i : Nat} {o : Opd} (ho : os[i]? = some o) : is32 (valO L o) := by
  have h1 := hf.2 o (List.mem_of_getElem? ho)
  cases o with
  | inl v => exact h1
  | inr p =>
    obtain ⟨t, f⟩ := p
    simp only at h1
    have a := adr_le9 h t
    have b := adr_le9 h f
    have c := hf.1
    show _ ∧ _
    simp only [valO]; omega
theorem needL_take {os : List Opd} {L : List Nat} {k : Nat} {o : Opd} (h : os[k]? = some o) : (needL os L).take (k + 1) = (needL os L).take k ++ [lenV (valO L o)] := by
  rw [List.take_add_one]
  simp [needL, h]
theorem ncells_append (a b : List Nat) : ncells (a ++ b) = ncells a ++ ncells b := by simp [ncells]
set_option maxRecDepth 100000 in
set_option maxHeartbeats 4000000 in
theorem rNeed (ls : List LineL) (hok : ∀ x ∈ ls, LOk x) (he : checkE ls = 0) (hn : ls.length ≤ 4096) {L : List Nat} (hLl : L.length = ls.length) (h9 : ∀ i, L.getD i 0 ≤ 9) (A A2 : Option Addr) (c c2 : Nat) (w : World)
    (hr : Reads w w.heap.size 5 A ls.length (linesL ls)) (hr2 : Reads w w.heap.size 1 A2 ls.length (ncells L)) :
    Calls Tryz.prog 20 #[.slice A (ls.length : Nat) c, .slice A2 (ls.length : Nat) c2] w (RetRow 3 1 ls.length (ncells (needL (opds ls) L)) w) := by
  have hfit : Fit (opds ls) := opds_fit hn fun x hx => (hok x hx).arg
  have HOP := Lib.hid (fun (k : Nat) (x : LineL) (hx : ls[k]? = some x) w1 (h1 : Reads w1 w1.heap.size 5 A ls.length (linesL ls)) (h2 : Reads w1 w1.heap.size 1 A2 ls.length (ncells L)) => rOperand ls hx hn hLl h9 A A2 c c2 w1 h1 h2)
  have HLE := Lib.hid (fun (k : Nat) (x : LineL) (hx : ls[k]? = some x) w1 => rLen04 x.fn _ (val9_is32 hfit h9 (opds_get hx)) (valid_code (check_valid he hx)) w1)
  have HTK := Lib.hid (fun (k : Nat) (x : LineL) (hx : ls[k]? = some x) => needL_take (L := L) (opds_get hx))
  have HVL := Lib.hid (fun (k : Nat) (x : LineL) (hx : ls[k]? = some x) => lenV_le (val9_is32 hfit h9 (opds_get hx)))
  have hnl : (needL (opds ls) L).length = ls.length := by rw [needL_len, opds_len]
  generalize needL (opds ls) L = NL at *
  obtain ⟨i0, hi0, hz0, hz1, hz2⟩ := info_parts int_info
  have HR := Lib.hid hr
  have HR2 := Lib.hid hr2
  have HNL := Lib.hid hnl
  obtain ⟨n, hnn⟩ : ∃ n, ls.length = n := ⟨_, rfl⟩
  rw [hnn] at HR HR2 HNL HOP hn ⊢
  have HN0 : Hid (w.ownsRow w.heap.size 3 1 (.slice none 0 0) 0 (ncells (NL.take 0))) := Lib.hid (World.ownsRow_nil _ _ _ _)
  have HNN := Lib.hid hnn
  clear hfit hnl hr hr2 hok he hLl h9 hnn
  go_enter Tryz.func20, Tryz.ntmps20
  go_wp2
  go_loopw [5, 6] (fun v p wr => ∃ k : Nat, k ≤ n ∧ p = .int .i64 k ∧ Hid (Below w.heap.size w wr) ∧ Hid (wr.ownsRow w.heap.size 3 1 v k (ncells (NL.take k)))) (fun _ p _ => n - (intOf p).toNat)
  case atStart => exact ⟨0, by omega, rfl, Lib.hid (Below.refl _ _), HN0⟩
  case round =>
    clear HN0
    obtain ⟨k, hk, rfl, HB, HN⟩ := hrel
    by_cases hlt : k < n
    · have hltI : (k : Int) < n := by omega
      obtain ⟨b, off, x, rfl, hb, hx, c0, c1, c2', c3, c4⟩ := lines_at (HR.out.below HB.out) hlt
      have hbs : b < wr.heap.size := by have := HB.out.size; omega
      have HX := Lib.hid hx
      have HTK2 := Lib.hid (HTK.out k x hx)
      have hv8 := HVL.out k x hx
      have HCO := Lib.hid (HOP.out k x hx)
      have HCL := Lib.hid (HLE.out k x hx)
      generalize valO L (opdL ls k x) = vv at *
      generalize lenV vv = lv at *
      have R0 := Lib.hid (show Reads wr.drew wr.drew.heap.size 5 (some ⟨b, off, none⟩) n (linesL ls) from (HR.out.below HB.out).more HB.out.size)
      have L0 := Lib.hid (show Reads wr.drew wr.drew.heap.size 1 A2 n (ncells L) from (HR2.out.below HB.out).more HB.out.size)
      have c1d : wr.drew.cell? ⟨b, off + k * 5 + 1, none⟩ = some (.int .u8 x.fn) := c1
      have hbd : b < wr.drew.heap.size := hbs
      have HBd := Lib.hid (show Below w.heap.size w wr.drew from HB.out.drew)
      have HNd := Lib.hid HN.out.drew'
      have b0 := fun w1 : World => Blk.new w1 3 #[.int .i64 lv]
      have B0 := Lib.hid b0
      clear hx HOP HLE HTK HVL b0
      go_upto_region 5 with (fail)
      go_region_held3 (fun w' => w'.cell? ⟨b, off + k * 5 + 1, none⟩ = some (.int .u8 x.fn)) (first | exact c1d | exact (hb1.cell hbd).trans c1d | exact (hb2.cell hbd1).trans c1e | exact c1f | exact c1g)
        (first
         | (go_at_call 28; (with_reducible refine (HCO.out _ R0.out L0.out).mono ?_); rintro e w1 ⟨rfl, hb1⟩
            have c1e := (hb1.cell hbd).trans c1d
            have hbd1 : b < w1.heap.size := Nat.lt_of_lt_of_le hbd hb1.size)
         | (go_at_call 36; (with_reducible refine (HCL.out _).mono ?_); rintro e w2 ⟨rfl, hb2⟩
            have hbd2 : b < w2.heap.size := Nat.lt_of_lt_of_le hbd1 hb2.size
            have c1f : (w2.alloc (.cells #[.int .i64 lv] 3)).cell? ⟨b, off + k * 5 + 1, none⟩ = some (.int .u8 x.fn) := (World.cell?_alloc_lt _ _ ⟨b, off + k * 5 + 1, none⟩ hbd2).trans ((hb2.cell hbd1).trans c1e)
            have HN2 := Lib.hid (((HNd.out.keep hb1 (Nat.le_refl _)).keep hb2 (Nat.le_refl _)).alloc (.cells #[.int .i64 lv] 3))
            have hs2 : w.heap.size ≤ (w2.alloc (.cells #[.int .i64 lv] 3)).heap.size := by
              rw [World.size_alloc]
              exact Nat.le_succ_of_le (Nat.le_trans HBd.out.size (Nat.le_trans hb1.size hb2.size))
            have hb2s : b < (w2.alloc (.cells #[.int .i64 lv] 3)).heap.size := by rw [World.size_alloc]; exact Nat.lt_succ_of_lt hbd2
            have hbne := fun g e => Nat.ne_of_lt (Nat.lt_of_lt_of_le hb (HN2.out.lt g e).1)
            have R2 := Reads.of_blk (xs := [.int .i64 (lv : Int)]) (n := 1) (B0.out w2) rfl)
         | (refine step_append_any _ rfl (.tmp 13) (.tmp 25) 26 rfl w.heap.size 3 i0 _ 1 8 Tryz.underlying26 hi0 hz0 hz1 hz2 rfl (by decide) _ _ _ rfl HN2.out _ _ 1 1 [.int .i64 (lv : Int)] rfl R2 (by simp [Value.oneCell']) (by unfold maxLen; omega) (by omega) hs2 ?_
            intro v' w3 hown3 hg3 hat3
            have c1g : w3.cell? ⟨b, off + k * 5 + 1, none⟩ = some (.int .u8 x.fn) := (World.cell?_of_block (a := ⟨b, off + k * 5 + 1, none⟩) (hg3.block b hb2s (fun e => hbne b e.symm rfl))).trans c1f))
      have KB1 := HBd.out.trans (hb1.mono HBd.out.size)
      have KB2 := KB1.trans (hb2.mono KB1.size)
      have KB3 := KB2.alloc KB2.size (.cells #[.int .i64 lv] 3)
      have KB4 := Lib.hid (KB3.grown hg3 KB3.size (fun g e => (HN2.out.lt g e).1))
      have HN3 : Hid (w3.ownsRow w.heap.size 3 1 v' (k + 1) (ncells (NL.take (k + 1)))) := Lib.hid (by rw [HTK2.out, ncells_append]; exact hown3)
      clear KB1 KB2 KB3 hb1 hb2 hg3 hat3 hown3 HN2 R2
      go_wp2
      go_roundw
      case rel => exact ⟨k + 1, by omega, by go_num, KB4, HN3⟩
      case measure => simp [intOf]; omega
    · have hltI : ¬ (k : Int) < n := by omega
      obtain rfl : n = k := by omega
      rw [List.take_of_length_le (by rw [HNL.out]; omega)] at HN
      go_wp2
      go_ret
      exact RetRow.mk HN.out (Nat.le_refl _) HB.out
end Go.Proofs.YtjnngeakdclkbaaGreatDoor

/- What the row's condition on package-level variables gives the walks of chapter 06, and how its arguments read. -/
namespace Go.Proofs.YtjnngeakdclkbaaGreatDoor
open Go.ChangeShapes Go.WideShapes Go.ChangeAt Go.RowKit

theorem i32_bounds {a : Int} (h : (Lit.int .i32 a).wf = true) : -2147483648 ≤ a ∧ a ≤ 2147483647 := by
  have := (Lit.wf_int_iff _ _).1 h
  simp [IntKind.min, IntKind.max, IntKind.signed, IntKind.bits] at this
  omega
theorem u8_bounds {a : Int} (h : (Lit.int .u8 a).wf = true) : 0 ≤ a ∧ a ≤ 255 := by
  have := (Lit.wf_int_iff _ _).1 h
  simp [IntKind.min, IntKind.max, IntKind.signed, IntKind.bits] at this
  omega
theorem Tryz.own : ownKnob Tryz.prog.godebug = none := by kernel_rfl
theorem Tryz.laidOut : laidOutB Tryz.prog = true := by kernel_rfl
abbrev laidL : List (String × DataW Unit) := Rows.asmLengthsRow.laid
theorem laid_shaped (os : Os) : (World.laidAll Tryz.prog os laidL).Shaped Tryz.prog := World.shaped_of_ZipB (by kernel_rfl) (by kernel_rfl)
theorem laid_met (os : Os) (args : Array Value) : laidMetH Tryz.prog laidL ((World.laidAll Tryz.prog os laidL).forCall (fun _ _ => 0) ⟨#[], args, []⟩).memory := by
  rw [MakeChecks.laidMetH_plain _ _ _ (by kernel_rfl)]
  exact laidMet_laidAll _ (by kernel_rfl) (by kernel_rfl)
theorem var_below {w w' : World} {B : Nat} {n : String} {cs : Array Value} {g : Nat} (hg : Tryz.prog.globalNamed n = some g) (h : w.var? Tryz.prog n = some cs) (hb : Below B w w') (hB : g < B) : w'.var? Tryz.prog n = some cs := by
  unfold World.var? at h ⊢
  simp only [hg, Option.bind_some] at h ⊢
  rw [hb.block g hB]
  exact h
theorem var_lt {w : World} {n : String} {cs : Array Value} {g : Nat} (hg : Tryz.prog.globalNamed n = some g) (h : w.var? Tryz.prog n = some cs) : g < w.heap.size := by
  unfold World.var? at h
  simp only [hg, Option.bind_some] at h
  rcases Nat.lt_or_ge g w.heap.size with h' | h'
  · exact h'
  · simp [Array.getElem?_eq_none h'] at h
theorem gS : Tryz.prog.globalNamed "strconv.ErrSyntax" = some 3 := by kernel_rfl
theorem gR : Tryz.prog.globalNamed "strconv.ErrRange" = some 4 := by kernel_rfl
theorem gP : Tryz.prog.globalNamed "internal/strconv.uint64pow10" = some 5 := by kernel_rfl
theorem gA : Tryz.prog.globalNamed "strings.asciiSpace" = some 2 := by kernel_rfl
theorem gF : Tryz.prog.globalNamed "transputer/instr.functions" = some 0 := by kernel_rfl
theorem star_es : "*" ++ "errors.errorString" = "*errors.errorString" := by decide
theorem rowE (u : TypeId) (h : Tryz.prog.typeName? 3 u = some "*errors.errorString") : u = 155 :=
  typeName_ptr_named (nm := "errors.errorString") (by rw [star_es]; kernel_rfl) (by kernel_rfl) (by decide) u (by rw [star_es]; exact h)
/-- An array of strings that reads as the list holds just these. -/
theorem cells_of_strs {H : Type} {enc : TypeId × Value → H} {P : Program} {w : World} {base : Nat} {sp : Nat → Bool} {held : Bool} {fuel : Nat} {t e : TypeId} {n : Nat} {cs : List Value} {zs : List (List UInt8)} {p : List MemPlace}
    (ht : P.underlying t = some (.array n e)) (he : P.underlying e = some .string) (hce : P.cellsOf e = 1) (hct : P.cellsOf t = n)
    (h : DataW.trod enc P w base sp held fuel t cs = some (.agg (zs.map fun z => .lit (.string z)), p)) : cs = zs.map fun z => Value.string (strB z) := by
  cases fuel with
  | zero => simp [DataW.trod] at h
  | succ fuel =>
    simp only [DataW.trod, ht, hce, hct, Nat.mul_one] at h
    split at h
    · rename_i hl
      obtain ⟨xs, hm, hx⟩ := Option.map_eq_some_iff.1 h
      have hxs : xs.map (·.1) = zs.map fun z => (DataW.lit (.string z) : DataW H) := by
        have := congrArg Prod.fst hx
        simpa using this
      have hxl : xs.length = n := by simpa using Lib.mapM_length hm
      have hzl : zs.length = n := by
        have := congrArg List.length hxs
        simp at this
        omega
      apply List.ext_getElem?
      intro i
      by_cases hi : i < n
      · obtain ⟨b, hb, hf⟩ := Lib.mapM_at hm i i (by simp [hi])
        obtain ⟨z, hc, rfl, _⟩ := DataW.trod_string he hf
        have h1 : cs[i]? = some (.string z) := by
          have := congrArg (·[0]?) hc
          simpa [List.getElem?_take, List.getElem?_drop] using this
        have h2 : (xs.map (·.1))[i]? = some (DataW.lit (.string z.data.toList) : DataW H) := by simp [hb]
        rw [hxs] at h2
        simp only [List.getElem?_map, Option.map_eq_some_iff, DataW.lit.injEq, Lit.string.injEq] at h2
        obtain ⟨z', hz', rfl⟩ := h2
        simp [h1, hz', strB]
      · rw [List.getElem?_eq_none (by omega), List.getElem?_eq_none (by simp; omega)]
    · cases h
theorem fn_data : (Rows.laid_transputer_instr_functions : DataW Unit) = .agg (fnL.map fun z => .lit (.string z)) := by
  simp only [Rows.laid_transputer_instr_functions, fnL, List.map_cons, List.map_nil]
theorem fns_of_head {W : World} {rest : List (String × DataW Unit)} (h : laidMet Tryz.prog (("transputer/instr.functions", Rows.laid_transputer_instr_functions) :: rest) W) : W.var? Tryz.prog "transputer/instr.functions" = some fnV := by
  rw [fn_data] at h
  obtain ⟨ps, ⟨g', t', cs, fuel, p, q, hg', ht', hvar, hd, _, _⟩, _⟩ := h
  obtain rfl := Option.some.inj (gF.symm.trans hg')
  have hty : (Tryz.prog.globals[0]?).map (·.type) = some 106 := by kernel_rfl
  obtain rfl := Option.some.inj (hty.symm.trans ht')
  have hc := cells_of_strs Tryz.underlying106 Tryz.underlying9 (by kernel_rfl) (by kernel_rfl) hd
  rw [hvar]
  congr 1
  apply Array.toList_inj.1
  rw [hc]
  rfl
theorem fnsAt_of {w : World} (h : w.var? Tryz.prog "transputer/instr.functions" = some fnV) : FnsAt w := by
  unfold World.var? at h
  simp only [gF, Option.bind_some] at h
  split at h
  · rename_i o cs t f heq
    refine ⟨t, f, ?_⟩
    obtain rfl := Option.some.inj h
    exact heq
  · cases h
set_option maxRecDepth 100000 in
theorem laid_of {W : World} (h : laidMetH Tryz.prog laidL W) : Laid5 W.heap.size W := by
  rw [MakeChecks.laidMetH_plain _ _ _ (by kernel_rfl)] at h
  have h2 := h.tail.tail
  have h3 := h2.tail
  have h4 := h3.tail
  have h6 := h4.tail.tail
  have h7 := h6.tail
  have hT : Lib.TabIs Tryz.prog W "internal/strconv.uint64pow10" .u64 Lib.pow10Tab :=
    Lib.tabIs_of_head gP (t := 143) (e := 121) (n := 20) (by kernel_rfl) Tryz.underlying143 Tryz.underlying121 (by kernel_rfl) (by kernel_rfl) h2
  have hA : Lib.TabIs Tryz.prog W "strings.asciiSpace" .u8 Lib.asciiSpaceTab :=
    Lib.tabIs_of_head gA (t := 134) (e := 5) (n := 256) (by kernel_rfl) Tryz.underlying134 Tryz.underlying5 (by kernel_rfl) (by kernel_rfl) h6
  have hF := fns_of_head h7
  have tS : (Tryz.prog.globals[3]?).map (·.type) = some 67 := by kernel_rfl
  have tR : (Tryz.prog.globals[4]?).map (·.type) = some 67 := by kernel_rfl
  have cE : Tryz.prog.cellsOf 157 = 1 := by kernel_rfl
  have c9 : Tryz.prog.cellsOf 9 = 1 := by kernel_rfl
  obtain ⟨a1, s1, hv1, -, -, -⟩ := laid_sentinel h3 gR tR Tryz.underlying67 rowE Tryz.underlying155 Tryz.underlying157 rfl rfl Tryz.underlying9 cE c9
  obtain ⟨a0, s0, hv0, -, -, -⟩ := laid_sentinel h4 gS tS Tryz.underlying67 rowE Tryz.underlying155 Tryz.underlying157 rfl rfl Tryz.underlying9 cE c9
  exact ⟨⟨_, _, _, _, fun w' hb => ⟨var_below gS hv0 hb (var_lt gS hv0), var_below gR hv1 hb (var_lt gR hv1), var_below gP hT hb (var_lt gP hT)⟩⟩,
    fun w' hb => var_below gA hA hb (var_lt gA hA), fun w' hb => fnsAt_of (var_below gF hF hb (var_lt gF hF))⟩
theorem maxLt_of {W : World} (h : W.ShapedOpen Tryz.prog) : 1 < W.heap.size := by
  obtain ⟨m, hm⟩ := Tryz.laysM145.s1_3 W h
  have hm' : W.cell? ⟨1, 0, none⟩ = some (.int .i64 m) := hm
  rcases Nat.lt_or_ge 1 W.heap.size with h' | h'
  · exact h'
  · simp [World.cell?, Array.getElem?_eq_none h'] at hm'
theorem maxAt_of {W : World} (h : W.ShapedOpen Tryz.prog) : MaxAt W.heap.size W := by
  obtain ⟨m, hm⟩ := Tryz.laysM145.s1_3 W h
  have hm' : W.cell? ⟨1, 0, none⟩ = some (.int .i64 m) := hm
  have hlt : 1 < W.heap.size := by
    rcases Nat.lt_or_ge 1 W.heap.size with h' | h'
    · exact h'
    · simp [World.cell?, Array.getElem?_eq_none h'] at hm'
  exact fun w' hb => ⟨m, (hb.cell (p := ⟨1, 0, none⟩) hlt).trans hm'⟩
instance : Inhabited LineL := ⟨⟨[], 0, 0, [], []⟩⟩
section
variable {H : Type} {enc : TypeId × Value → H} {w : World} {base : Nat} {sp : Nat → Bool} {held : Bool} {fuel : Nat} {cs : List Value} {y : DataW H × List MemPlace}
theorem fsL : Tryz.prog.underlying 51 = some (.struct #[⟨ "Label", 9, 0, false, "", "", 0⟩, ⟨ "Fn", 5, 1, false, "", "", 16⟩, ⟨ "Arg", 21, 2, false, "", "", 20⟩, ⟨ "Target", 9, 3, false, "", "", 24⟩, ⟨ "From", 9, 4, false, "", "", 40⟩]) := by kernel_rfl
set_option maxRecDepth 100000 in
theorem open_line (h : DataW.trod enc Tryz.prog w base sp held fuel 51 cs = some y) (hw : Light Tryz.prog 51 y.1) : ∃ x : LineL, cs = (lineC x).toList ∧ LOk x := by
  obtain ⟨f, parts, hl, hy, hx⟩ := trod_struct_inv2 fsL h
  rw [hy] at hw
  have hl2 : cs.length = 5 := by rw [hl]; kernel_rfl
  have e3 : Tryz.prog.cellsOf 5 = 1 := by kernel_rfl
  have e4 : Tryz.prog.cellsOf 21 = 1 := by kernel_rfl
  have e9 : Tryz.prog.cellsOf 9 = 1 := by kernel_rfl
  match cs, hl2 with
  | [v0, v1, v2, v3, v4], _ =>
    obtain ⟨z0, h0, q0⟩ := hx 0 _ rfl
    obtain ⟨z1, h1, q1⟩ := hx 1 _ rfl
    obtain ⟨z2, h2, q2⟩ := hx 2 _ rfl
    obtain ⟨z3, h3, q3⟩ := hx 3 _ rfl
    obtain ⟨z4, h4, q4⟩ := hx 4 _ rfl
    have l0 := hw.part fsL (j := 0) rfl q0
    have l3 := hw.part fsL (j := 3) rfl q3
    have l4 := hw.part fsL (j := 4) rfl q4
    simp only at h0 h1 h2 h3 h4 l0 l3 l4
    obtain ⟨s0, ha, hs0⟩ := trod_string_inv2 Tryz.underlying9 h0
    obtain ⟨a, hb, wa⟩ := trod_int_inv Tryz.underlying5 h1
    obtain ⟨b, hc, wb⟩ := trod_int_inv Tryz.underlying21 h2
    obtain ⟨s3, hd, hs3⟩ := trod_string_inv2 Tryz.underlying9 h3
    obtain ⟨s4, he, hs4⟩ := trod_string_inv2 Tryz.underlying9 h4
    rw [hs0] at l0
    rw [hs3] at l3
    rw [hs4] at l4
    simp only [e3, e4, e9] at ha hb hc hd he
    simp at ha hb hc hd he
    subst ha hb hc hd he
    have ba := u8_bounds wa
    have bb := i32_bounds wb
    refine ⟨⟨s0.data.toList, a.toNat, b, s3.data.toList, s4.data.toList⟩, ?_, by simp only; omega, bb, l0.str, l3.str, l4.str⟩
    simp only [lineC]
    rw [show ((a.toNat : Nat) : Int) = a by omega]
    rfl
theorem open_lines (h : DataW.trod enc Tryz.prog w base sp held fuel 22 cs = some y) (hw : Light Tryz.prog 22 y.1) :
    ∃ A c ls, cs = [.slice A (ls.length : Nat) c] ∧ Reads w w.heap.size 5 A ls.length (linesL ls) ∧ (∀ x ∈ ls, LOk x) := by
  obtain ⟨A, m, c, ls, rfl, hr, rfl, ho, -, -⟩ := open_slice_of (α := LineL) (R := LOk) (cells := fun x => (lineC x).toList) (size := 5) (by kernel_rfl) (by decide) (fun x => by simp [lineC]) Tryz.underlying22 (fun f c z h1 h2 => open_line h1 h2) h hw
  exact ⟨A, c, ls, rfl, hr, ho⟩
theorem open_bytes (h : DataW.trod enc Tryz.prog w base sp held fuel 35 cs = some y) (hw : Light Tryz.prog 35 y.1) :
    ∃ (A : Option Addr) (c : Nat) (l : List UInt8), cs = [.slice A (l.length : Nat) c] ∧ Reads w w.heap.size 1 A l.length (l.map fun (x : UInt8) => .int .u8 (x.toNat : Int)) := by
  obtain ⟨A, m, c, l, rfl, hr, rfl, ho, -, -⟩ := open_slice_of (α := UInt8) (R := fun _ => True) (cells := fun (x : UInt8) => [Value.int .u8 (x.toNat : Int)]) (size := 1) (by kernel_rfl) (by decide) (fun x => rfl) Tryz.underlying35 (fun f c z h1 h2 => by
    obtain ⟨a, rfl, wa⟩ := trod_int_inv Tryz.underlying5 h1
    have ba := u8_bounds wa
    refine ⟨UInt8.ofNat a.toNat, ?_, trivial⟩
    have : ((UInt8.ofNat a.toNat).toNat : Int) = a := by rw [UInt8.toNat_ofNat']; omega
    rw [this]) h hw
  refine ⟨A, c, l, rfl, ?_⟩
  have e : ∀ l : List UInt8, l.flatMap (fun (x : UInt8) => [Value.int .u8 (x.toNat : Int)]) = l.map fun (x : UInt8) => .int .u8 (x.toNat : Int) := by
    intro l
    induction l with
    | nil => rfl
    | cons a r ih => rw [List.flatMap_cons, ih]; rfl
  rwa [e] at hr
end
end Go.Proofs.YtjnngeakdclkbaaGreatDoor
