/- Texts that belong together, joined: what each one holds is told ahead of it. -/
import Derived.Test.YtljeecocbcffcaaDoorHK1
import Derived.Shelf.Small.Strs
import Derived.Lib.Bytealg
import Derived.Lib.ConvBytes
import Derived.Test.YtljeecocbcffcaaDoorHK2
import Derived.BigQuiet
import Derived.IntWalk
/- strings.Cut at one space, of a string of any length, walked; digits of the tables. -/
namespace Go.Proofs.YtljeecocbcffcaaDoor
open Go.RowKit Go.Shelf

theorem idx_tw (c : UInt8) : ∀ l : List UInt8, Lib.indexByte l c = if l.dropWhile (· != c) = [] then -1 else ((l.takeWhile (· != c)).length : Int)
  | [] => rfl
  | b :: l => by
    have ih := idx_tw c l
    rw [Lib.indexByte]
    by_cases h : b = c
    · subst h; simp
    · have h1 : (b == c) = false := by simpa using h
      have h2 : (b != c) = true := by simpa using h
      simp only [h1, List.dropWhile_cons, List.takeWhile_cons, h2, if_true]
      rw [ih]
      by_cases h3 : l.dropWhile (· != c) = []
      · simp [h3]
      · have h4 : ¬ (((l.takeWhile (· != c)).length : Int) == -1) = true := by simp
        simp only [h3, if_false, Bool.false_eq_true, h4, List.length_cons, Int.natCast_add, Int.natCast_one]
theorem take_tw (c : UInt8) (l : List UInt8) : l.take (l.takeWhile (· != c)).length = l.takeWhile (· != c) := by
  induction l with
  | nil => rfl
  | cons b l ih =>
    rw [List.takeWhile_cons]
    split
    · rw [List.length_cons, List.take_succ_cons, ih]
    · rfl
theorem drop_tw (c : UInt8) (l : List UInt8) : l.drop (l.takeWhile (· != c)).length = l.dropWhile (· != c) := by
  induction l with
  | nil => rfl
  | cons b l ih =>
    rw [List.takeWhile_cons, List.dropWhile_cons]
    split
    · rw [List.length_cons, List.drop_succ_cons, ih]
    · rfl
theorem drop_tw1 (c : UInt8) (l : List UInt8) : l.drop ((l.takeWhile (· != c)).length + 1) = (l.dropWhile (· != c)).tail := by
  rw [← drop_tw, List.tail_drop]
theorem tw_le (c : UInt8) (l : List UInt8) : (l.takeWhile (· != c)).length ≤ l.length := (List.takeWhile_sublist _).length_le
theorem tw_lt (c : UInt8) (l : List UInt8) (h : l.dropWhile (· != c) ≠ []) : (l.takeWhile (· != c)).length < l.length := by
  have h1 := tw_le c l
  rcases Nat.lt_or_eq_of_le h1 with h2 | h2
  · exact h2
  · exact absurd (by rw [← drop_tw, h2]; simp) h
theorem tw_none (c : UInt8) (l : List UInt8) (h : l.dropWhile (· != c) = []) : l.takeWhile (· != c) = l := by
  have := List.takeWhile_append_dropWhile (p := (· != c)) (l := l)
  rw [h, List.append_nil] at this; exact this
end Go.Proofs.YtljeecocbcffcaaDoor

/- strings.Cut at one space, digits of the tables, and the maker of the rows' iterator, walked. -/
namespace Go.Proofs.YtljeecocbcffcaaDoor
open Go.RowKit Go.Shelf

def sp1 : ByteArray := ⟨#[32]⟩
theorem idx_one : Lib.indexByte [32] 32 = 0 := rfl
theorem sp1_list : (({ data := #[32] } : ByteArray)).toList = [32] := by rw [ByteArray.toList_eq]
theorem iIndex (S : ByteArray) (w : World) : Calls Tryd.prog 93 #[.string S, .string ⟨#[32]⟩] w (RetQ (.int .i64 (Lib.indexByte S.data.toList 32)) w) := by
  have hI := Lib.hid (fun w => Any.stringslite_IndexByte Tryd.lays217 S 32 w)
  by_cases h : S.data.toList = [32]
  · have e : Lib.indexByte S.data.toList 32 = 0 := by rw [h]; rfl
    rw [e]
    have h2 : ([32] == S.toList) = true := by rw [ByteArray.toList_eq, h]; rfl
    clear hI h e
    go_enter Tryd.func93, Tryd.ntmps93
    go_wp2
    go_ret
    exact ⟨rfl, rfl⟩
  · have h2 : ([32] == S.toList) = false := by
      rw [ByteArray.toList_eq, beq_eq_false_iff_ne]; exact fun e => h e.symm
    clear h
    go_enter Tryd.func93, Tryd.ntmps93
    go_wp2_with (first
      | (go_at_call 103; refine (hI.out _).mono ?_; rintro e w1 ⟨rfl, rfl⟩))
    go_ret
    exact ⟨rfl, rfl⟩
/-- strings.Cut at one space. -/
def cutV (l : List UInt8) : Value := .tuple #[.string (strB (l.takeWhile (· != 32))), .string (strB (l.dropWhile (· != 32)).tail), .bool (!(l.dropWhile (· != 32)).isEmpty)]
theorem ext_take (S : ByteArray) (k : Nat) : S.extract 0 k = strB (S.data.toList.take k) := by
  apply ByteArray.ext
  simp only [strB, ByteArray.data_extract]
  apply Array.ext'
  simp only [Array.toList_extract, List.extract_eq_take_drop, Nat.sub_zero, List.drop_zero]
theorem ext_drop (S : ByteArray) (k : Nat) : S.extract k S.size = strB (S.data.toList.drop k) := by
  apply ByteArray.ext
  simp only [strB, ByteArray.data_extract]
  apply Array.ext'
  simp only [Array.toList_extract, List.extract_eq_take_drop]
  rw [List.take_of_length_le (by rw [List.length_drop, str_size]; exact Nat.le_refl _)]
def RetD (v : Value) (w : World) (e : Ending) (w' : World) : Prop := e = .returned v ∧ ∃ n, w' = w.drewN n
theorem iCut0 (S : ByteArray) (w : World) (hs : S.size ≤ 9223372036854775806) : Calls Tryd.prog 83 #[.string S, .string ⟨#[32]⟩] w (RetD (cutV S.data.toList) w) := by
  have hI := iIndex S
  rw [idx_tw] at hI
  unfold cutV
  by_cases h : S.data.toList.dropWhile (· != 32) = []
  · rw [if_pos h] at hI
    have e1 : strB (S.data.toList.takeWhile (· != 32)) = S := by rw [tw_none 32 _ h]; rfl
    rw [h, e1]
    have HI := Lib.hid hI
    clear hI h e1
    go_enter Tryd.func83, Tryd.ntmps83
    go_wp2_with (first
      | (go_at_call 93; refine (HI.out _).mono ?_; rintro e w1 ⟨rfl, rfl⟩))
    go_ret3
    exact ⟨rfl, 0, rfl⟩
  · rw [if_neg h] at hI
    have hk := tw_lt 32 _ h
    rw [str_size] at hk
    have e1 := take_tw 32 S.data.toList
    have e2 := drop_tw1 32 S.data.toList
    rw [← e1, ← e2]
    have e3 : (S.data.toList.dropWhile (· != 32)).isEmpty = false := by simpa using h
    rw [e3]
    rw [← ext_take, ← ext_drop]
    generalize (S.data.toList.takeWhile (· != 32)).length = k at hI hk ⊢
    have HI := Lib.hid hI
    have k0 : (0 : Int) ≤ k := by omega
    have k1 : (k : Int) ≤ S.size := by omega
    have k2 : (0 : Int) ≤ (k : Int) + 1 := by omega
    have k3 : (k : Int) + 1 ≤ S.size := by omega
    clear hI h e1 e2 e3
    go_enter Tryd.func83, Tryd.ntmps83
    go_wp2_with (first
      | (go_at_call 93; refine (HI.out _).mono ?_; rintro e w1 ⟨rfl, rfl⟩))
    go_region
    all_goals
      go_wp2
      go_ret3
      exact ⟨rfl, 1, rfl⟩
theorem iCut (S : ByteArray) (w : World) (hs : S.size ≤ 9223372036854775806) : Calls Tryd.prog 66 #[.string S, .string ⟨#[32]⟩] w (RetD (cutV S.data.toList) w) := by
  have HI := Lib.hid (fun w => iCut0 S w hs)
  unfold cutV at HI ⊢
  generalize strB (S.data.toList.takeWhile (· != 32)) = a at HI ⊢
  generalize strB (S.data.toList.dropWhile (· != 32)).tail = b at HI ⊢
  generalize (!(S.data.toList.dropWhile (· != 32)).isEmpty) = c at HI ⊢
  go_enter Tryd.func66, Tryd.ntmps66
  go_wp2_with (first
    | (go_at_call 83; refine (HI.out _).mono ?_; rintro e w1 ⟨rfl, n, rfl⟩))
  go_ret3
  exact ⟨rfl, n, rfl⟩
theorem dig_idx : ∀ d, d < 16 → Lib.indexByte [48, 49, 50, 51, 52, 53, 54, 55, 56, 57, 65, 66, 67, 68, 69, 70] (dig d) = d := by decide
theorem idigit (d : Nat) (h : d < 16) (w : World) : Calls Tryd.prog 96 #[.int .u8 (dig d).toNat] w (RetQ (.int .i32 d) w) := by
  have hI := Lib.hid (fun w => Any.strings_IndexByte Tryd.lays137 ⟨#[48, 49, 50, 51, 52, 53, 54, 55, 56, 57, 65, 66, 67, 68, 69, 70]⟩ ((dig d).toNat : Int) w)
  have e := dig_idx d h
  have e2 : (((dig d).toNat : Int).toNat).toUInt8 = dig d := by simp
  go_enter Tryd.func96, Tryd.ntmps96
  go_wp2_with (first
    | (go_at_call 109; refine (hI.out _).mono ?_; rintro e w1 ⟨rfl, rfl⟩; rw [e2, e]))
  go_ret
  exact ⟨rfl, rfl⟩
theorem irows (w : World) : Calls Tryd.prog 84 #[] w (RetQ (.func (.func 94) #[] #[]) w) := by
  go_enter Tryd.func84, Tryd.ntmps84
  go_wp2
  go_ret
  exact ⟨rfl, rfl⟩
end Go.Proofs.YtljeecocbcffcaaDoor

/- A label's form, walked in the program. -/
namespace Go.Proofs.YtljeecocbcffcaaDoor
open Go.RowKit Go.Shelf

/-- A byte that fits a label at its place. -/
def fitB (i : Nat) (c : UInt8) : Bool := letterB c || (!(i == 0) && otherB c)
theorem conv_bytes (S : ByteArray) (w : World) : (convert 9 22 (.string S)).run Tryd.prog w = .ok (.slice (some ⟨w.heap.size, 0, none⟩) S.size (grownCap w S.size 0 5)) (Lib.bytesWorld w 5 S) :=
  Lib.run_convert_string_bytes w _ _ _ S Tryd.underlying9 Tryd.underlying22 Tryd.underlying5
theorem letter_or (c : UInt8) : (97 ≤ bits BinOp.or .u8 (c.toNat : Int) 32 ∧ bits BinOp.or .u8 (c.toNat : Int) 32 ≤ 122 ∧ letterB c = true) ∨ (¬ 97 ≤ bits BinOp.or .u8 (c.toNat : Int) 32 ∧ letterB c = false) ∨
    (97 ≤ bits BinOp.or .u8 (c.toNat : Int) 32 ∧ ¬ bits BinOp.or .u8 (c.toNat : Int) 32 ≤ 122 ∧ letterB c = false) := by
  have h : ∀ n : Nat, n < 256 → ((97 ≤ bits BinOp.or .u8 (n : Int) 32 ∧ bits BinOp.or .u8 (n : Int) 32 ≤ 122 ∧ letterB (UInt8.ofNat n) = true) ∨ (¬ 97 ≤ bits BinOp.or .u8 (n : Int) 32 ∧ letterB (UInt8.ofNat n) = false) ∨
    (97 ≤ bits BinOp.or .u8 (n : Int) 32 ∧ ¬ bits BinOp.or .u8 (n : Int) 32 ≤ 122 ∧ letterB (UInt8.ofNat n) = false)) := by decide +kernel
  have := h c.toNat c.toNat_lt_size
  rwa [UInt8.ofNat_toNat] at this
theorem label_no {l : List UInt8} {i : Nat} {c : UInt8} (h : l[i]? = some c) (hf : fitB i c = false) : labelB l = false := by
  cases l with
  | nil => rfl
  | cons x r =>
    cases i with
    | zero =>
      simp at h; subst h
      simp [fitB] at hf
      simp [labelB, hf]
    | succ i =>
      have hm : c ∈ r := List.mem_of_getElem? (by simpa using h)
      have hx : r.all (fun c => letterB c || otherB c) = false := by
        rw [List.all_eq_false]
        exact ⟨c, hm, by simp [fitB] at hf; simp [hf]⟩
      simp [labelB, hx]
theorem label_end {S : ByteArray} (h : ∀ j c, j < S.size → S.data.toList[j]? = some c → fitB j c = true) : labelB S.data.toList = (!(S.size == 0) && decide (S.size ≤ 32)) := by
  have hsz : S.data.toList.length = S.size := by rw [Array.length_toList]; rfl
  rw [← hsz] at h ⊢
  generalize S.data.toList = l at *
  cases l with
  | nil => rfl
  | cons x r =>
    have h1 := h 0 x (by simp) rfl
    have h2 : r.all (fun c => letterB c || otherB c) = true := by
      rw [List.all_eq_true]
      intro c hc
      obtain ⟨j, hj⟩ := List.getElem?_of_mem hc
      have hl : j < r.length := by obtain ⟨h, _⟩ := List.getElem?_eq_some_iff.1 hj; exact h
      have := h (j + 1) c (by simp; omega) (by simpa using hj)
      simpa [fitB] using this
    simp [fitB] at h1
    simp [labelB, h1, h2]
theorem bytes_below (w : World) (S : ByteArray) : Below w.heap.size w (Lib.bytesWorld w 5 S) := by
  refine ⟨rfl, rfl, rfl, ?_, fun k hk => Lib.bytesWorld_at_old w _ S k hk⟩
  rw [Lib.bytesWorld_size]; omega
set_option maxRecDepth 100000 in
theorem iLabel (S : ByteArray) (hs : S.size ≤ 281474976710656) (w : World) : Calls Tryd.prog 69 #[.string S] w (RetV (.bool (labelB S.data.toList)) w) := by
  have hcv := conv_bytes S w
  go_enter Tryd.func69, Tryd.ntmps69
  go_wp2
  obtain ⟨W, hW⟩ : ∃ W, Lib.bytesWorld w 5 S = W := ⟨_, rfl⟩
  have hcell : ∀ j, j < S.size → W.cell? ⟨w.heap.size, j, none⟩ = some (.int .u8 (S.data.toList.getD j 0).toNat) := fun j hj => hW ▸ Lib.bytesWorld_cell w _ S j hj
  have hkB : Below w.heap.size w W := by rw [← hW]; exact bytes_below w S
  have HC := Lib.hid hcell
  rw [hW]
  clear hW hcell hcv
  have HS := Lib.hid hs
  go_loopw [9] (fun p wr => ∃ i : Nat, i ≤ S.size ∧ p = .int .i64 (i : Int) ∧ Hid (∀ j c, j < i → S.data.toList[j]? = some c → fitB j c = true) ∧ wr = W) (fun p _ => S.size - (intOf p).toNat)
  case atStart => exact ⟨0, by omega, rfl, Lib.hid (by intro j c h; omega), rfl⟩
  case round =>
    obtain ⟨i, hi, rfl, Hi, rfl⟩ := hrel
    by_cases hlt : i < S.size
    · have hltI : (i : Int) < S.size := by omega
      have c0 := HC.out i hlt
      generalize hc : S.data.toList.getD i 0 = c at c0
      have hm := letter_or c
      have hcg : S.data.toList[i]? = some c := by
        have : i < S.data.toList.length := by simpa using hlt
        rw [List.getElem?_eq_getElem this, ← hc, List.getD_eq_getElem?_getD, List.getElem?_eq_getElem this]; rfl
      have HG := Lib.hid hcg
      have w1 : IntKind.i64.wrap ((i : Int) + 1) = (i : Int) + 1 := IntWalk.i64_in _ (by have := HS.out; omega)
      clear hc hcg hs
      generalize hmm : bits BinOp.or .u8 (c.toNat : Int) 32 = m at hm
      have on : fitB i c = true → ∀ j d, j < i + 1 → S.data.toList[j]? = some d → fitB j d = true := by
        intro hf j d hj hd
        by_cases h : j = i
        · subst h; rw [HG.out] at hd; injection hd with hd; subst hd; exact hf
        · exact Hi.out j d (by omega) hd
      have no : fitB i c = false → labelB S.data.toList = false := fun hf => label_no HG.out hf
      have ON := Lib.hid on
      have NO := Lib.hid no
      clear on no
      rcases hm with ⟨h1, h2, h3⟩ | ⟨h1, h3⟩ | ⟨h1, h2, h3⟩
      · go_wp2
        go_roundw
        case rel => exact ⟨i + 1, by omega, by go_num, Lib.hid (ON.out (by simp [fitB, h3])), trivial⟩
        case measure => simp [intOf]; omega
      all_goals
        by_cases hi0 : i = 0
        · subst hi0
          go_wp2
          refine bodyPost_ret (v := .bool false) (by simp [results, Tryd.results69, go_sem]) rfl ⟨by rw [NO.out (by simp [fitB, h3])], hkB⟩
        have hi1 : ((i : Int) == 0) = false := by simpa using hi0
        by_cases h46 : (c.toNat : Int) = 46
        · have h46b : ((c.toNat : Int) != 46) = false := by simpa using h46
          go_wp2
          go_roundw
          case rel => exact ⟨i + 1, by omega, by go_num, Lib.hid (ON.out (by simp [fitB, h3, hi0, otherB]; omega)), trivial⟩
          case measure => simp [intOf]; omega
        have h46b : ((c.toNat : Int) != 46) = true := by simpa using h46
        by_cases h48 : (c.toNat : Int) < 48
        · go_wp2
          refine bodyPost_ret (v := .bool false) (by simp [results, Tryd.results69, go_sem]) rfl ⟨by rw [NO.out (by simp [fitB, h3, hi0, otherB]; omega)], hkB⟩
        by_cases h57 : 57 < (c.toNat : Int)
        · go_wp2
          refine bodyPost_ret (v := .bool false) (by simp [results, Tryd.results69, go_sem]) rfl ⟨by rw [NO.out (by simp [fitB, h3, hi0, otherB]; omega)], hkB⟩
        go_wp2
        go_roundw
        case rel => exact ⟨i + 1, by omega, by go_num, Lib.hid (ON.out (by simp [fitB, h3, hi0, otherB]; omega)), trivial⟩
        case measure => simp [intOf]; omega
    · have hltI : ¬ (i : Int) < S.size := by omega
      obtain rfl : i = S.size := by omega
      have hend := label_end (S := S) Hi.out
      have HE := Lib.hid hend
      clear hend Hi
      by_cases h0 : S.size = 0
      · obtain rfl : S = ⟨#[]⟩ := by
          rcases S with ⟨d⟩
          have : d.size = 0 := h0
          rw [Array.size_eq_zero_iff.1 this]
        go_wp2
        refine bodyPost_ret (v := .bool false) (by simp [results, Tryd.results69, go_sem]) rfl ⟨rfl, hkB⟩
      · have hE : S.toList.isEmpty = false := by
          rw [ByteArray.toList_eq, List.isEmpty_eq_false_iff]
          intro e
          have : S.data.size = 0 := by rw [← Array.length_toList, e]; rfl
          exact h0 this
        have hlab : labelB S.data.toList = decide ((S.size : Int) ≤ 32) := by
          rw [HE.out]
          have h1 : (S.size == 0) = false := by simpa using h0
          rw [h1]
          have h2 : ((S.size : Int) ≤ 32) = (S.size ≤ 32) := by rw [eq_iff_iff]; omega
          simp [h2]
        have HL := Lib.hid hlab
        clear hlab HE
        go_wp2
        refine bodyPost_ret (v := .bool (decide ((S.size : Int) ≤ 32))) (by simp [results, Tryd.results69, go_sem]) rfl ⟨by rw [HL.out], hkB⟩
end Go.Proofs.YtljeecocbcffcaaDoor

/- The iterator over the operations' rows. -/
namespace Go.Proofs.YtljeecocbcffcaaDoor
open Go.RowKit Go.Shelf

def opsL : List UInt8 := [10, 48, 48, 32, 114, 101, 118, 32, 50, 50, 32, 32, 48, 49, 32, 108, 98, 32, 49, 49, 32, 32, 48, 50, 32, 98, 115, 117, 98, 32, 50, 49, 32, 32, 48, 51, 32, 101, 110, 100, 112, 32, 49, 48, 32, 32, 48, 52, 32, 100, 105, 102, 102, 32, 50, 49, 32, 32, 48, 53, 32, 97, 100, 100, 32, 50, 49, 32, 32, 48, 54, 32, 103, 99, 97, 108, 108, 32, 49, 49, 32, 32, 48, 55, 32, 105, 110, 32, 51, 48, 32, 32, 48, 56, 32, 112, 114, 111, 100, 32, 50, 49, 10, 48, 57, 32, 103, 116, 32, 50, 49, 32, 32, 48, 65, 32, 119, 115, 117, 98, 32, 50, 49, 32, 32, 48, 66, 32, 111, 117, 116, 32, 51, 48, 32, 32, 48, 67, 32, 115, 117, 98, 32, 50, 49, 32, 32, 48, 68, 32, 115, 116, 97, 114, 116, 112, 32, 50, 48, 32, 32, 48, 69, 32, 111, 117, 116, 98, 121, 116, 101, 32, 50, 48, 32, 32, 48, 70, 32, 111, 117, 116, 119, 111, 114, 100, 32, 50, 48, 32, 32, 49, 48, 32, 115, 101, 116, 101, 114, 114, 32, 48, 48, 10, 49, 50, 32, 114, 101, 115, 101, 116, 99, 104, 32, 49, 49, 32, 32, 49, 51, 32, 99, 115, 117, 98, 48, 32, 50, 49, 32, 32, 49, 53, 32, 115, 116, 111, 112, 112, 32, 48, 48, 32, 32, 49, 54, 32, 108, 97, 100, 100, 32, 51, 49, 32, 32, 49, 57, 32, 110, 111, 114, 109, 32, 50, 51, 32, 32, 49, 65, 32, 108, 100, 105, 118, 32, 51, 50, 32, 32, 49, 66, 32, 108, 100, 112, 105, 32, 49, 49, 32, 32, 49, 68, 32, 120, 100, 98, 108, 101, 32, 49, 50, 10, 49, 69, 32, 108, 100, 112, 114, 105, 32, 48, 49, 32, 32, 49, 70, 32, 114, 101, 109, 32, 50, 49, 32, 32, 50, 48, 32, 114, 101, 116, 32, 48, 48, 32, 32, 50, 49, 32, 108, 101, 110, 100, 32, 50, 48, 32, 32, 50, 50, 32, 108, 100, 116, 105, 109, 101, 114, 32, 48, 49, 32, 32, 50, 57, 32, 116, 101, 115, 116, 101, 114, 114, 32, 48, 49, 32, 32, 50, 66, 32, 116, 105, 110, 32, 49, 48, 32, 32, 50, 67, 32, 100, 105, 118, 32, 50, 49, 10, 50, 69, 32, 100, 105, 115, 116, 32, 51, 49, 32, 32, 50, 70, 32, 100, 105, 115, 99, 32, 51, 49, 32, 32, 51, 48, 32, 100, 105, 115, 115, 32, 50, 49, 32, 32, 51, 49, 32, 108, 109, 117, 108, 32, 51, 50, 32, 32, 51, 50, 32, 110, 111, 116, 32, 49, 49, 32, 32, 51, 51, 32, 120, 111, 114, 32, 50, 49, 32, 32, 51, 52, 32, 98, 99, 110, 116, 32, 49, 49, 32, 32, 51, 53, 32, 108, 115, 104, 114, 32, 51, 50, 32, 32, 51, 54, 32, 108, 115, 104, 108, 32, 51, 50, 10, 51, 55, 32, 108, 115, 117, 109, 32, 51, 50, 32, 32, 51, 56, 32, 108, 115, 117, 98, 32, 51, 49, 32, 32, 51, 57, 32, 114, 117, 110, 112, 32, 49, 48, 32, 32, 51, 65, 32, 120, 119, 111, 114, 100, 32, 50, 49, 32, 32, 51, 66, 32, 115, 98, 32, 50, 48, 32, 32, 51, 67, 32, 103, 97, 106, 119, 32, 49, 49, 32, 32, 51, 70, 32, 119, 99, 110, 116, 32, 49, 50, 32, 32, 52, 48, 32, 115, 104, 114, 32, 50, 49, 32, 32, 52, 49, 32, 115, 104, 108, 32, 50, 49, 10, 52, 50, 32, 109, 105, 110, 116, 32, 48, 49, 32, 32, 52, 51, 32, 97, 108, 116, 32, 48, 48, 32, 32, 52, 52, 32, 97, 108, 116, 119, 116, 32, 48, 48, 32, 32, 52, 53, 32, 97, 108, 116, 101, 110, 100, 32, 48, 48, 32, 32, 52, 54, 32, 97, 110, 100, 32, 50, 49, 32, 32, 52, 55, 32, 101, 110, 98, 116, 32, 50, 49, 32, 32, 52, 56, 32, 101, 110, 98, 99, 32, 50, 49, 32, 32, 52, 57, 32, 101, 110, 98, 115, 32, 49, 49, 32, 32, 52, 65, 32, 109, 111, 118, 101, 32, 51, 48, 10, 52, 66, 32, 111, 114, 32, 50, 49, 32, 32, 52, 67, 32, 99, 115, 110, 103, 108, 32, 50, 49, 32, 32, 52, 68, 32, 99, 99, 110, 116, 49, 32, 50, 49, 32, 32, 52, 69, 32, 116, 97, 108, 116, 32, 48, 48, 32, 32, 52, 70, 32, 108, 100, 105, 102, 102, 32, 51, 50, 32, 32, 53, 49, 32, 116, 97, 108, 116, 119, 116, 32, 48, 48, 32, 32, 53, 50, 32, 115, 117, 109, 32, 50, 49, 32, 32, 53, 51, 32, 109, 117, 108, 32, 50, 49, 10, 53, 52, 32, 115, 116, 116, 105, 109, 101, 114, 32, 49, 48, 32, 32, 53, 53, 32, 115, 116, 111, 112, 101, 114, 114, 32, 48, 48, 32, 32, 53, 54, 32, 99, 119, 111, 114, 100, 32, 50, 49, 32, 32, 53, 55, 32, 99, 108, 114, 104, 97, 108, 116, 101, 114, 114, 32, 48, 48, 32, 32, 53, 56, 32, 115, 101, 116, 104, 97, 108, 116, 101, 114, 114, 32, 48, 48, 32, 32, 53, 57, 32, 116, 101, 115, 116, 104, 97, 108, 116, 101, 114, 114, 32, 48, 49, 10]
/-- The fields of the table's text. -/
def opF : List (List UInt8) := tabO.flatMap fun r => [[dig (r.arg / 16), dig (r.arg % 16)], r.name, [dig r.takes, dig r.leaves]]
set_option maxRecDepth 100000 in
theorem fields_ops : Lib.fields opsL = opF := by decide +kernel
theorem opF_len : opF.length = 222 := by decide +kernel
theorem flat3 (f : IRow → List (List UInt8)) (h3 : ∀ r, (f r).length = 3) : ∀ (l : List IRow) (k : Nat) (r : IRow), l[k]? = some r → ∀ j, j < 3 → (l.flatMap f)[3 * k + j]? = (f r)[j]?
  | [], k, r, h, _, _ => by simp at h
  | x :: l, 0, r, h, j, hj => by
    simp at h; subst h
    rw [List.flatMap_cons, List.getElem?_append_left (by rw [h3]; omega)]; simp
  | x :: l, k + 1, r, h, j, hj => by
    rw [List.flatMap_cons, List.getElem?_append_right (by rw [h3]; omega), h3]
    have e : 3 * (k + 1) + j - 3 = 3 * k + j := by omega
    rw [e]
    exact flat3 f h3 l k r (by simpa using h) j hj
theorem opF_at {k : Nat} {r : IRow} (h : tabO[k]? = some r) : opF[3 * k]? = some [dig (r.arg / 16), dig (r.arg % 16)] ∧ opF[3 * k + 1]? = some r.name ∧ opF[3 * k + 2]? = some [dig r.takes, dig r.leaves] := by
  have h3 := flat3 (fun r => [[dig (r.arg / 16), dig (r.arg % 16)], r.name, [dig r.takes, dig r.leaves]]) (fun _ => rfl) tabO k r h
  exact ⟨h3 0 (by omega), h3 1 (by omega), h3 2 (by omega)⟩
def opFV : Array Value := (opF.map fun l => Value.string ⟨l.toArray⟩).toArray
theorem opFV_at {i : Nat} {l : List UInt8} (h : opF[i]? = some l) : opFV[i]? = some (.string (strB l)) := by
  simp [opFV, h]; rfl

def rowV (r : IRow) : Value := .agg #[.int .i32 r.arg, .string (strB r.name), .int .i64 r.takes, .int .i64 r.leaves]

/-- The table of blanks, as laid. -/
def Blanks (B : Nat) (w : World) : Prop := ∀ w', Below B w w' → Lib.TabIs Tryd.prog w' "strings.asciiSpace" .u8 Lib.asciiSpaceTab
theorem str_at {S : ByteArray} {i : Nat} {c : UInt8} (h : S.data[i]? = some c) (h0 : i < S.size) : S[i] = c := by
  rw [ByteArray.getElem_eq_getElem_data]
  have h1 : S.data[i]? = some S.data[i] := Array.getElem?_eq_getElem h0
  rw [h1] at h
  exact Option.some.inj h
theorem idigitq (d : Nat) (h : d < 16) (w : World) : Calls Tryd.prog 96 #[.int .u8 (dig d).toNat] w fun e w' => e = .returned (.int .i32 d) ∧ w' = w :=
  (idigit d h w).mono fun _ _ ⟨h1, h2⟩ => ⟨h1, h2.symm⟩
theorem ops_ascii : ∀ b ∈ opsL, b.toNat < 128 := by decide +kernel
theorem iFields (w : World) (hT : Lib.TabIs Tryd.prog w "strings.asciiSpace" .u8 Lib.asciiSpaceTab) :
    Calls Tryd.prog 95 #[.string ⟨opsL.toArray⟩] w fun e w' => e = .returned (.slice (some ⟨w.heap.size, 0, none⟩) 222 222) ∧ w' = w.alloc (.cells opFV 9) := by
  refine (Any.strings_Fields Tryd.lays157 (by kernel_rfl) (by kernel_rfl) ⟨opsL.toArray⟩ w (by decide +kernel) (fun j b h => ops_ascii b (List.mem_of_getElem? h)) hT).mono ?_
  rintro e w' ⟨rfl, rfl⟩
  have e1 : Lib.fields ((⟨opsL.toArray⟩ : ByteArray).data.toList) = opF := fields_ops
  rw [e1, opF_len]
  exact ⟨rfl, rfl⟩
set_option maxRecDepth 100000 in
set_option maxHeartbeats 5000000 in
theorem rows_iter (n : Nat) (X : Nat → Prop) (w0 : World) (hX : ∀ k, X k → k < w0.heap.size) (B : Nat) (hBl : Blanks B w0) (hB : B ≤ w0.heap.size) :
    SeqUntil Fence.wide n Tryd.prog 94 #[] (fun r : IRow => #[rowV r]) X tabO w0 := by
  intro l J Jx W hW hJ hJx hY h0
  have hT : Lib.TabIs Tryd.prog W "strings.asciiSpace" .u8 Lib.asciiSpaceTab := hBl W (hW.mono hB)
  have hF := Lib.hid (callsIn_wide (n := n - 1).2 (iFields W hT))
  have h0' := hJ _ _ _ h0 ((Below.refl W.heap.size W).alloc (Nat.le_refl _) (.cells opFV 9))
  have hbl : Blk (W.alloc (.cells opFV 9)) W.heap.size 9 opFV := Blk.new W _ _
  have hWs := hW.size
  clear hT hBl
  refine callsIn_of_wp Tryd.func94 rfl trivial ?_ rfl
  simp only [Tryd.ntmps94, List.size_toArray, List.length_cons, List.length_nil, Nat.reduceAdd, Nat.reduceSub, Array.replicate_succ, Array.replicate_zero, List.push_toArray, List.append_toArray, List.nil_append, List.cons_append]
  have HY := Lib.hid hY; clear hY
  have HJ := Lib.hid hJ; clear hJ
  have HJx := Lib.hid hJx; clear hJx
  gi_wp2_with (refine ⟨trivial, fun h => (by cases h), hF.out.mono ?_⟩; rintro e w1 ⟨rfl, rfl⟩)
  obtain ⟨W1, hW1⟩ : ∃ W1, W.alloc (.cells opFV 9) = W1 := ⟨_, rfl⟩
  have hsz1 : W.heap.size < W1.heap.size := by rw [← hW1]; simp
  rw [hW1] at h0' hbl ⊢
  clear hW1 hF
  gi_loopw [3] (fun p wr => ∃ k i : Nat, k ≤ 74 ∧ Hid (i = 3 * k) ∧ i ≤ 222 ∧ p = .int .i64 (i : Int) ∧ Hid (J (tabO.take k) wr) ∧ Blk wr W.heap.size 9 opFV) (fun p _ => 222 - (intOf p).toNat)
  case atStart => exact ⟨0, 0, by omega, rfl, by omega, rfl, Lib.hid h0', hbl⟩
  case round =>
    clear h0' hbl hsz1
    obtain ⟨k, i, hk, Hi, hi, rfl, HJk, hbl⟩ := hrel
    have hgl := hbl.lt
    by_cases hlt : k < 74
    · obtain ⟨r, hr⟩ : ∃ r, tabO[k]? = some r := ⟨_, List.getElem?_eq_getElem (by rw [tabO_len]; exact hlt)⟩
      obtain ⟨o1, o2, o3⟩ := opF_at hr
      have hi2 : i + 2 < 222 := by have := Hi.out; omega
      have hi2I : (i : Int) + 2 < 222 := by omega
      rw [← Hi.out] at o1 o2 o3
      have c0 := hbl.cell i
      have c1 := hbl.cell (i + 1)
      have c2 := hbl.cell (i + 2)
      rw [opFV_at o1] at c0
      rw [opFV_at o2] at c1
      rw [opFV_at o3] at c2
      obtain ⟨hm15, hm256, -, -, hm12, hmt, hml, -⟩ := tabO_ok r (List.mem_of_getElem? hr)
      have HR := Lib.hid hr
      have ha : r.arg / 16 < 16 := by omega
      have hb : r.arg % 16 < 16 := by omega
      have hab : 16 * ((r.arg / 16 : Nat) : Int) + ((r.arg % 16 : Nat) : Int) = (r.arg : Int) := by omega
      have hV : rowV r = .agg #[.int .i32 r.arg, .string (strB r.name), .int .i64 r.takes, .int .i64 r.leaves] := rfl
      have HV := Lib.hid hV
      clear hV
      have x0 : (strB [dig (r.arg / 16), dig (r.arg % 16)]).size = 2 ∧ (strB [dig (r.arg / 16), dig (r.arg % 16)]).data[0]? = some (dig (r.arg / 16)) ∧ (strB [dig (r.arg / 16), dig (r.arg % 16)]).data[1]? = some (dig (r.arg % 16)) := ⟨rfl, rfl, rfl⟩
      have y0 : (strB [dig r.takes, dig r.leaves]).size = 2 ∧ (strB [dig r.takes, dig r.leaves]).data[0]? = some (dig r.takes) ∧ (strB [dig r.takes, dig r.leaves]).data[1]? = some (dig r.leaves) := ⟨rfl, rfl, rfl⟩
      generalize strB [dig (r.arg / 16), dig (r.arg % 16)] = S1 at *
      generalize strB [dig r.takes, dig r.leaves] = S2 at *
      generalize strB r.name = NM at *
      obtain ⟨x1, x2, x3⟩ := x0
      obtain ⟨y1, y2, y3⟩ := y0
      have hx0 : 0 < S1.size := by omega
      have hx1 : 1 < S1.size := by omega
      have hy0 : 0 < S2.size := by omega
      have hy1 : 1 < S2.size := by omega
      have X0 : S1[0] = dig (r.arg / 16) := str_at x2 hx0
      have X1 : S1[1] = dig (r.arg % 16) := str_at x3 hx1
      have Y0 : S2[0] = dig r.takes := str_at y2 hy0
      have Y1 : S2[1] = dig r.leaves := str_at y3 hy1
      generalize r.arg / 16 = da at *
      generalize r.arg % 16 = db at *
      generalize r.takes = dt at *
      generalize r.leaves = dl at *
      generalize r.arg = ra at *
      have hdt : dt < 16 := by omega
      have hdl : dl < 16 := by omega
      have w1 : IntKind.i64.wrap ((i : Int) + 1) = (i : Int) + 1 := IntWalk.i64_in _ (by omega)
      have w2 : IntKind.i64.wrap ((i : Int) + 2) = (i : Int) + 2 := IntWalk.i64_in _ (by omega)
      have w3 : IntKind.i32.wrap (16 * (da : Int)) = 16 * (da : Int) := IntWalk.i32_in _ (by omega)
      have w4 : IntKind.i32.wrap (16 * (da : Int) + (db : Int)) = 16 * (da : Int) + (db : Int) := IntWalk.i32_in _ (by omega)
      have n1 : ((i : Int) + 1).toNat = i + 1 := by omega
      have n2 : ((i : Int) + 2).toNat = i + 2 := by omega
      have p1 : (0 : Int) ≤ (i : Int) + 1 := by omega
      have p2 : (0 : Int) ≤ (i : Int) + 2 := by omega
      have p3 : (i : Int) + 1 < 222 := by omega
      have p4 : (i : Int) < 222 := by omega
      clear o1 o2 o3 x1 x2 x3 y1 y2 y3 hr
      have hD := Lib.hid (fun d (h : d < 16) w => idigitq d h w)
      gi_wp2
      refine wpIn_wide_of_wp ?_
      have hw2 : ∃ W2, wr.drew.alloc (.cells #[.int .i32 0, .string ⟨#[]⟩, .int .i64 0, .int .i64 0] 132) = W2 := ⟨_, rfl⟩
      obtain ⟨W2, hW2⟩ := hw2
      have hb2 : Blk W2 W.heap.size 9 opFV := hW2 ▸ (hbl.drew.alloc _)
      have hs2 : W2.heap.size = wr.heap.size + 1 := by rw [← hW2]; simp
      obtain ⟨W3, hW3⟩ : ∃ W3, (((W2.setCell ⟨wr.heap.size, 0, none⟩ (.int .i32 ra)).setCell ⟨wr.heap.size, 1, none⟩ (.string NM)).setCell ⟨wr.heap.size, 2, none⟩ (.int .i64 dt)).setCell ⟨wr.heap.size, 3, none⟩ (.int .i64 dl) = W3 := ⟨_, rfl⟩
      have hb3 : Blk W3 W.heap.size 9 opFV := by
        rw [← hW3]
        exact (((hb2.far (p := ⟨wr.heap.size, 0, none⟩) (by simp; omega) _).far (p := ⟨wr.heap.size, 1, none⟩) (by simp; omega) _).far (p := ⟨wr.heap.size, 2, none⟩) (by simp; omega) _).far (p := ⟨wr.heap.size, 3, none⟩) (by simp; omega) _
      have e0 := (hb2.cell i).trans ((hbl.cell i).symm.trans c0)
      have e1 := (hb2.cell (i + 1)).trans ((hbl.cell (i + 1)).symm.trans c1)
      have e2 := (hb2.cell (i + 2)).trans ((hbl.cell (i + 2)).symm.trans c2)
      have g0 := (hb3.cell i).trans ((hbl.cell i).symm.trans c0)
      have g1 := (hb3.cell (i + 1)).trans ((hbl.cell (i + 1)).symm.trans c1)
      have g2 := (hb3.cell (i + 2)).trans ((hbl.cell (i + 2)).symm.trans c2)
      refine wp_region_quiet_new (mm := 53) (A := ?A) (p := .pointer (some ⟨wr.heap.size, 0, none⟩)) (w2 := W2) (w3 := (((W2.setCell ⟨wr.heap.size, 0, none⟩ (.int .i32 ra)).setCell ⟨wr.heap.size, 1, none⟩ (.string NM)).setCell ⟨wr.heap.size, 2, none⟩ (.int .i64 dt)).setCell ⟨wr.heap.size, 3, none⟩ (.int .i64 dl)) 36 (by kernel_rfl) ?hsz ?hB rfl (by kernel_rfl) rfl rfl rfl rfl (by kernel_rfl) ?hrA ?hrS ?h1 ?h2 ?h3 ?hend
      case hsz => rfl
      case hB => kernel_rfl
      case h1 =>
        simp only [List.take_succ_cons, List.take_zero]
        repeat (first
          | go_big_quiet_step (fail)
          | (go_big_quiet_want; go_big_quiet_op; apply Exists.intro; refine ⟨?_, ?_⟩; (exact hD.out _ (by assumption) _); go_big_quiet_on))
        refine wpQuiet_nil ?_
        rfl
      case hrA => intro a; rw [← hW2]; simp [go_sem]
      case h2 =>
        clear c0 c1 c2
        simp only [List.take_succ_cons, List.take_zero]
        repeat (first
          | go_big_quiet_step (fail)
          | (go_big_quiet_want; go_big_quiet_op; apply Exists.intro; refine ⟨?_, ?_⟩; (exact hD.out _ (by assumption) _); go_big_quiet_on))
        refine wpQuiet_nil ?_
        rfl
      case h3 =>
        rw [hW3]
        clear c0 c1 c2 e0 e1 e2
        simp only [List.take_succ_cons, List.take_zero]
        repeat (first
          | go_big_quiet_step (fail)
          | (go_big_quiet_want; go_big_quiet_op; apply Exists.intro; refine ⟨?_, ?_⟩; (exact hD.out _ (by assumption) _); go_big_quiet_on))
        refine wpQuiet_nil ?_
        rfl
      case hrS =>
        rw [← hW2]
        simp [go_sem]
      case hend =>
        have bR : Blk W3 wr.heap.size 132 #[.int .i32 ra, .string NM, .int .i64 dt, .int .i64 dl] := by
          have h := Blk.new wr.drew 132 #[.int .i32 0, .string ⟨#[]⟩, .int .i64 0, .int .i64 0]
          rw [hW2] at h
          have h4 := (((h.set_ 0 (.int .i32 ra)).set_ 1 (.string NM)).set_ 2 (.int .i64 dt)).set_ 3 (.int .i64 dl)
          have h5 : Blk W3 wr.heap.size _ _ := hW3 ▸ h4
          simpa using h5
        have kB3 : Below wr.heap.size wr W3 := by
          rw [← hW3, ← hW2]
          exact ((((((Below.refl _ wr).drew).alloc (Nat.le_refl _) _).setCell (by simp) _).setCell (by simp) _).setCell (by simp) _).setCell (by simp) _
        have HJ3 := Lib.hid (HJ.out _ _ _ HJk.out (kB3.mono (by omega)))
        have hs3 := kB3.size
        have hs4 := bR.lt
        obtain ⟨rr, hrr⟩ : ∃ rr, tabO = tabO.take k ++ r :: rr := by
          obtain ⟨h, hr⟩ := List.getElem?_eq_some_iff.1 HR.out
          refine ⟨tabO.drop (k + 1), ?_⟩
          conv => lhs; rw [← List.take_append_drop k tabO, List.drop_eq_getElem_cons h, hr]
        have htk : tabO.take k ++ [r] = tabO.take (k + 1) := by
          obtain ⟨h, hr⟩ := List.getElem?_eq_some_iff.1 HR.out
          rw [List.take_succ_eq_append_getElem h, hr]
        obtain ⟨fn, tmps, assign, body, hy, hR⟩ := HY.out (tabO.take k) r rr W3 HJ3.out hrr
        rw [HV.out] at hy
        have HRR := Lib.hid hrr
        have HTK := Lib.hid htk
        have HRd := Lib.hid hR
        have q0 := bR.cell 0
        have q1 := bR.cell 1
        have q2 := bR.cell 2
        have q3 := bR.cell 3
        simp at q0 q1 q2 q3
        rw [hW3]
        clear hrr htk hR HV hD c0 c1 c2 e0 e1 e2 g0 g1 g2 hb2 hW2 hs2 hW3 X0 X1 Y0 Y1 hab HJk w1 w2 w3 w4 n1 n2 p1 p2 p3 p4
        simp only [Act.put, List.setIfInBounds_toArray, List.set_cons_succ, List.set_cons_zero]
        gi_wp2
        refine ⟨by simp [Fence.wide], HRd.out.mono ?_⟩
        rintro e w1 (⟨rfl, hJ1, kx⟩ | ⟨rfl, hJx1⟩)
        · have hXW : ¬ X W.heap.size := fun h => by have := hX _ h; have := hW.size; omega
          have hbl1 : Blk w1 W.heap.size 9 opFV := kx.block _ _ _ _ hXW hb3
          rw [HTK.out] at hJ1
          have HJ1 := Lib.hid hJ1
          clear hJ1 kx hb3 bR kB3 HJ3 q0 q1 q2 q3 hbl
          have w5 : (i : Int) + 3 ≤ 225 := by omega
          gi_wp2
          go_roundw
          case rel => exact ⟨k + 1, i + 3, by omega, Lib.hid (by have := Hi.out; omega), by omega, by go_num, HJ1, hbl1⟩
          case measure => simp [intOf]; omega
        · have HJx1 := Lib.hid hJx1
          clear hJx1 hb3 bR kB3 HJ3 q0 q1 q2 q3 hbl
          gi_wp2
          refine bodyPost_ret (results_none rfl _ _ _) rfl ?_
          exact ⟨⟨_, rfl⟩, .inr ⟨_, _, _, HRR.out, HJx1.out⟩⟩
    · have hI2 : ¬ (i : Int) + 2 < 222 := by have := Hi.out; omega
      have hk74 : k = 74 := by omega
      have HJ74 : Hid (J tabO wr) := by
        have h := HJk.out
        rw [List.take_of_length_le (by rw [tabO_len]; omega)] at h
        exact Lib.hid h
      clear hk74 HJk
      gi_wp2
      go_end0
      exact ⟨⟨_, rfl⟩, .inl HJ74.out⟩
end Go.Proofs.YtljeecocbcffcaaDoor

/- The reference's tables, walked. -/
namespace Go.Proofs.YtljeecocbcffcaaDoor
open Go.RowKit
set_option linter.unusedVariables false
set_option linter.unusedSimpArgs false

def rowCells (r : IRow) : List Value := [.int .u8 r.fn, .int .i32 r.arg, .string (strB r.name), .int .i64 r.takes, .int .i64 r.leaves]
def rowsV (l : List IRow) : Array Value := (l.flatMap rowCells).toArray
set_option maxRecDepth 100000 in
theorem rFunctions (w : World) : Calls Tryd.prog 89 #[] w fun e w' => e = .returned (.slice (some ⟨w.heap.size, 0, none⟩) 13 13) ∧ w' = w.alloc (.cells (rowsV tabF) 139) := by
  go_enter Tryd.func89, Tryd.ntmps89
  go_upto_region 1 with (fail)
  refine wp_region_slot (s := 0) (v := .slice (some ⟨w.heap.size, 0, none⟩) 13 13) (w' := w.alloc (.cells (rowsV tabF) 139)) (by kernel_rfl) ?_
  intro t ht
  go_wp2
  go_ret
  exact ⟨by rw [ht], rfl⟩
set_option maxRecDepth 100000 in
theorem rOperations (w : World) : Calls Tryd.prog 90 #[] w fun e w' => e = .returned (.slice (some ⟨w.heap.size, 0, none⟩) 74 74) ∧ w' = w.alloc (.cells (rowsV tabO) 139) := by
  go_enter Tryd.func90, Tryd.ntmps90
  refine wp_seq ?_
  refine wp_region_runOps (a' := { tmps := (Array.replicate 150 undef).setIfInBounds 0 (.slice none 0 0), defers := [] }) (w' := w) (by kernel_rfl) ?_
  refine wp_seq ?_
  refine wp_region_slot (s := 0) (v := .slice (some ⟨w.heap.size, 0, none⟩) 74 74) (w' := w.alloc (.cells (rowsV tabO) 139)) (by kernel_rfl) ?_
  intro t ht
  refine wp_ret ?_
  go_ret
  exact ⟨by rw [ht], rfl⟩
end Go.Proofs.YtljeecocbcffcaaDoor

/- The reference's Find, walked. -/
namespace Go.Proofs.YtljeecocbcffcaaDoor
open Go.RowKit
set_option linter.unusedVariables false
set_option linter.unusedSimpArgs false

def rowA (r : IRow) : Value := .agg #[.int .u8 r.fn, .int .i32 r.arg, .string (strB r.name), .int .i64 r.takes, .int .i64 r.leaves]
/-- A row, or none, as Find hands it back. -/
def rowR (o : Option IRow) : Value := .tuple #[rowA (o.getD irow0), .bool o.isSome]
theorem rowsV_at {l : List IRow} {k : Nat} {r : IRow} (h : l[k]? = some r) : (rowsV l)[k * 5]? = some (.int .u8 r.fn) ∧ (rowsV l)[k * 5 + 1]? = some (.int .i32 r.arg) ∧ (rowsV l)[k * 5 + 2]? = some (.string (strB r.name)) ∧
    (rowsV l)[k * 5 + 3]? = some (.int .i64 r.takes) ∧ (rowsV l)[k * 5 + 4]? = some (.int .i64 r.leaves) := by
  have hg : ∀ j v, (rowCells r)[j]? = some v → (rowsV l)[k * 5 + j]? = some v := by
    intro j v hv
    have hj : j < 5 := by
      have := (List.getElem?_eq_some_iff.1 hv).1
      simpa [rowCells] using this
    have : ∀ (l : List IRow) (k : Nat), l[k]? = some r → (l.flatMap rowCells)[k * 5 + j]? = some v := by
      intro l
      induction l with
      | nil => intro k h; simp at h
      | cons x l ih =>
        intro k h
        cases k with
        | zero =>
          simp at h; subst h
          rw [List.flatMap_cons, List.getElem?_append_left (by simp [rowCells]; omega)]
          simpa using hv
        | succ k =>
          rw [List.flatMap_cons, List.getElem?_append_right (by simp [rowCells]; omega)]
          have e : (k + 1) * 5 + j - (rowCells x).length = k * 5 + j := by simp [rowCells]; omega
          rw [e]
          exact ih k (by simpa using h)
    simp only [rowsV, List.getElem?_toArray]
    exact this l k h
  exact ⟨hg 0 _ rfl, hg 1 _ rfl, hg 2 _ rfl, hg 3 _ rfl, hg 4 _ rfl⟩
theorem rFindF (fn arg : Int) (hf : 0 ≤ fn ∧ fn ≤ 255) (h15 : fn ≠ 15) (w : World) : Calls Tryd.prog 91 #[.agg #[.int .u8 fn, .int .i32 arg]] w (RetV (rowR (findI fn arg)) w) := by
  have t15 : (fn == 15) = false := by simpa using h15
  have t15' : (fn != 15) = true := by simpa using h15
  have hF : findI fn arg = tabF.find? fun r => (r.fn : Int) == fn := by unfold findI; rw [if_neg h15]
  have HF := Lib.hid hF
  clear hF
  go_enter Tryd.func91, Tryd.ntmps91
  go_wp2_with (first
    | (go_at_call 89; refine (rFunctions _).mono ?_; rintro e w1 ⟨rfl, rfl⟩))
  obtain ⟨k1, k2, k3⟩ := lay2 w #[.int .u8 fn, .int .i32 arg] #[.int .u8 0, .int .i32 0, .string ⟨#[]⟩, .int .i64 0, .int .i64 0] 59 139
  obtain ⟨W1, hW1⟩ : ∃ W1, (w.alloc (Obj.cells #[.int .u8 fn, .int .i32 arg] 59)).alloc (Obj.cells #[.int .u8 0, .int .i32 0, .string ⟨#[]⟩, .int .i64 0, .int .i64 0] 139) = W1 := ⟨_, rfl⟩
  have hsz : W1.heap.size = w.heap.size + 2 := by rw [← hW1]; simp
  rw [hW1] at k1 k2 k3 ⊢
  clear hW1
  have b3 := Blk.new W1 139 (rowsV tabF)
  have b1 := k2.alloc (.cells (rowsV tabF) 139)
  have b2 := k3.alloc (.cells (rowsV tabF) 139)
  have kB := k1.alloc (by omega) (.cells (rowsV tabF) 139)
  rw [hsz] at b3
  obtain ⟨W2, hW2⟩ : ∃ W2, W1.alloc (.cells (rowsV tabF) 139) = W2 := ⟨_, rfl⟩
  rw [hW2] at b1 b2 b3 kB ⊢
  clear hW2 k1 k2 k3 hsz
  go_loopw [5] (fun i wr => ∃ k : Nat, k ≤ 13 ∧ i = .int .i64 k ∧ Hid (tabF.find? (fun r => (r.fn : Int) == fn) = (tabF.drop k).find? (fun r => (r.fn : Int) == fn)) ∧ Blk wr w.heap.size 59 #[.int .u8 fn, .int .i32 arg] ∧
    Blk wr (w.heap.size + 1) 139 #[.int .u8 0, .int .i32 0, .string ⟨#[]⟩, .int .i64 0, .int .i64 0] ∧ Blk wr (w.heap.size + 2) 139 (rowsV tabF) ∧ Below w.heap.size w wr) (fun i _ => 13 - (intOf i).toNat)
  case atStart => exact ⟨0, by omega, rfl, rfl, b1, b2, b3, kB⟩
  case round =>
    clear b1 b2 b3 kB
    obtain ⟨k, hk, rfl, Hk, b1, b2, b3, kB⟩ := hrel
    have c10 := b1.cell 0
    have c11 := b1.cell 1
    simp at c10 c11
    have e20 := b2.cell 0
    have e21 := b2.cell 1
    have e22 := b2.cell 2
    have e23 := b2.cell 3
    have e24 := b2.cell 4
    simp at e20 e21 e22 e23 e24
    have f20 := b2.frozen 0
    have f21 := b2.frozen 1
    have f22 := b2.frozen 2
    have f23 := b2.frozen 3
    have f24 := b2.frozen 4
    have l2 := b2.lt
    have kD : ∀ n, Below w.heap.size w (wr.drewN n) := fun n => kB.trans ⟨rfl, rfl, rfl, Nat.le_refl _, fun _ _ => rfl⟩
    have KD := Lib.hid kD
    clear kD
    by_cases hlt : k < 13
    · have hltI : (k : Int) < 13 := by omega
      obtain ⟨r, hr⟩ : ∃ r, tabF[k]? = some r := ⟨_, List.getElem?_eq_getElem (by rw [tabF_len]; exact hlt)⟩
      obtain ⟨v0, v1, v2, v3, v4⟩ := rowsV_at hr
      have d0 := b3.cell (k * 5)
      have d1 := b3.cell (k * 5 + 1)
      have d2 := b3.cell (k * 5 + 2)
      have d3 := b3.cell (k * 5 + 3)
      have d4 := b3.cell (k * 5 + 4)
      rw [v0] at d0
      rw [v1] at d1
      rw [v2] at d2
      rw [v3] at d3
      rw [v4] at d4
      have hdrop : tabF.drop k = r :: tabF.drop (k + 1) := by
        obtain ⟨h, hr⟩ := List.getElem?_eq_some_iff.1 hr
        rw [List.drop_eq_getElem_cons h, hr]
      have hk2 := Hk.out
      rw [hdrop, List.find?_cons] at hk2
      clear v0 v1 v2 v3 v4 hr hdrop
      cases hm : ((r.fn : Int) == fn)
      · rw [hm] at hk2
        have HK := Lib.hid hk2
        clear hk2 Hk
        go_wp2
        go_quiet (fail)
        go_wp2
        go_roundw
        case rel => exact ⟨k + 1, by omega, by go_num, HK.out, b1, b2, b3, KD.out _⟩
        case measure => simp [intOf]; omega
      · rw [hm] at hk2
        have HK := Lib.hid (HF.out.trans hk2)
        clear hk2 Hk
        go_wp2
        go_quiet (fail)
        go_wp2
        refine bodyPost_ret (v := rowR (some r)) (by simp [results, Tryd.results91, go_sem, e20, e21, e22, e23, e24, rowR, rowA]) rfl ⟨by rw [HK.out], ?_⟩
        exact (((((KD.out _).setCell (by simp) _).setCell (by simp) _).setCell (by simp) _).setCell (by simp) _).setCell (by simp) _
    · have hltI : ¬ (k : Int) < 13 := by omega
      have hno : findI fn arg = none := by
        rw [HF.out, Hk.out, List.drop_of_length_le (by rw [tabF_len]; omega)]; rfl
      have HN := Lib.hid hno
      clear hno Hk
      go_wp2
      refine bodyPost_ret (v := rowR none) (by simp [results, Tryd.results91, go_sem, e20, e21, e22, e23, e24, rowR, rowA, irow0, strB]) rfl ⟨by rw [HN.out], ?_⟩
      exact ((((kB.setCell (by simp) _).setCell (by simp) _).setCell (by simp) _).setCell (by simp) _).setCell (by simp) _
theorem rFindO (arg : Int) (w : World) : Calls Tryd.prog 91 #[.agg #[.int .u8 15, .int .i32 arg]] w (RetV (rowR (findI 15 arg)) w) := by
  have hF : findI 15 arg = tabO.find? fun r => (r.arg : Int) == arg := by unfold findI; rw [if_pos rfl]
  have HF := Lib.hid hF
  clear hF
  go_enter Tryd.func91, Tryd.ntmps91
  go_wp2_with (first
    | (go_at_call 89; refine (rFunctions _).mono ?_; rintro e w1 ⟨rfl, rfl⟩)
    | (go_at_call 90; refine (rOperations _).mono ?_; rintro e w1 ⟨rfl, rfl⟩))
  obtain ⟨k1, k2, k3⟩ := lay2 w #[.int .u8 15, .int .i32 arg] #[.int .u8 0, .int .i32 0, .string ⟨#[]⟩, .int .i64 0, .int .i64 0] 59 139
  obtain ⟨W1, hW1⟩ : ∃ W1, (w.alloc (Obj.cells #[.int .u8 15, .int .i32 arg] 59)).alloc (Obj.cells #[.int .u8 0, .int .i32 0, .string ⟨#[]⟩, .int .i64 0, .int .i64 0] 139) = W1 := ⟨_, rfl⟩
  have hsz : W1.heap.size = w.heap.size + 2 := by rw [← hW1]; simp
  rw [hW1] at k1 k2 k3 ⊢
  clear hW1
  have b1 := (k2.alloc (.cells (rowsV tabF) 139)).alloc (.cells (rowsV tabO) 139)
  have b2 := (k3.alloc (.cells (rowsV tabF) 139)).alloc (.cells (rowsV tabO) 139)
  have kB := (k1.alloc (by omega) (.cells (rowsV tabF) 139)).alloc (by simp <;> omega) (.cells (rowsV tabO) 139)
  have b3 := Blk.new (W1.alloc (.cells (rowsV tabF) 139)) 139 (rowsV tabO)
  rw [World.size_alloc, hsz] at b3
  obtain ⟨W2, hW2⟩ : ∃ W2, (W1.alloc (.cells (rowsV tabF) 139)).alloc (.cells (rowsV tabO) 139) = W2 := ⟨_, rfl⟩
  rw [hW2] at b1 b2 b3 kB ⊢
  clear hW2 k1 k2 k3 hsz
  go_loopw [5] (fun i wr => ∃ k : Nat, k ≤ 74 ∧ i = .int .i64 k ∧ Hid (tabO.find? (fun r => (r.arg : Int) == arg) = (tabO.drop k).find? (fun r => (r.arg : Int) == arg)) ∧ Blk wr w.heap.size 59 #[.int .u8 15, .int .i32 arg] ∧
    Blk wr (w.heap.size + 1) 139 #[.int .u8 0, .int .i32 0, .string ⟨#[]⟩, .int .i64 0, .int .i64 0] ∧ Blk wr (w.heap.size + 3) 139 (rowsV tabO) ∧ Below w.heap.size w wr) (fun i _ => 74 - (intOf i).toNat)
  case atStart => exact ⟨0, by omega, rfl, rfl, b1, b2, b3, kB⟩
  case round =>
    clear b1 b2 b3 kB
    obtain ⟨k, hk, rfl, Hk, b1, b2, b3, kB⟩ := hrel
    have c10 := b1.cell 0
    have c11 := b1.cell 1
    simp at c10 c11
    have e20 := b2.cell 0
    have e21 := b2.cell 1
    have e22 := b2.cell 2
    have e23 := b2.cell 3
    have e24 := b2.cell 4
    simp at e20 e21 e22 e23 e24
    have f20 := b2.frozen 0
    have f21 := b2.frozen 1
    have f22 := b2.frozen 2
    have f23 := b2.frozen 3
    have f24 := b2.frozen 4
    have l2 := b2.lt
    have kD : ∀ n, Below w.heap.size w (wr.drewN n) := fun n => kB.trans ⟨rfl, rfl, rfl, Nat.le_refl _, fun _ _ => rfl⟩
    have KD := Lib.hid kD
    clear kD
    by_cases hlt : k < 74
    · have hltI : (k : Int) < 74 := by omega
      obtain ⟨r, hr⟩ : ∃ r, tabO[k]? = some r := ⟨_, List.getElem?_eq_getElem (by rw [tabO_len]; exact hlt)⟩
      obtain ⟨v0, v1, v2, v3, v4⟩ := rowsV_at hr
      have d0 := b3.cell (k * 5)
      have d1 := b3.cell (k * 5 + 1)
      have d2 := b3.cell (k * 5 + 2)
      have d3 := b3.cell (k * 5 + 3)
      have d4 := b3.cell (k * 5 + 4)
      have E15 := Lib.hid (tabO_ok r (List.mem_of_getElem? hr)).1
      rw [v0, E15.out] at d0
      rw [v1] at d1
      rw [v2] at d2
      rw [v3] at d3
      rw [v4] at d4
      have hdrop : tabO.drop k = r :: tabO.drop (k + 1) := by
        obtain ⟨h, hr⟩ := List.getElem?_eq_some_iff.1 hr
        rw [List.drop_eq_getElem_cons h, hr]
      have hk2 := Hk.out
      rw [hdrop, List.find?_cons] at hk2
      clear v0 v1 v2 v3 v4 hr hdrop
      cases hm : ((r.arg : Int) == arg)
      · rw [hm] at hk2
        have HK := Lib.hid hk2
        clear hk2 Hk
        go_wp2
        go_quiet (fail)
        go_wp2
        go_roundw
        case rel => exact ⟨k + 1, by omega, by go_num, HK.out, b1, b2, b3, KD.out _⟩
        case measure => simp [intOf]; omega
      · rw [hm] at hk2
        have HK := Lib.hid (HF.out.trans hk2)
        clear hk2 Hk
        go_wp2
        go_quiet (fail)
        go_wp2
        refine bodyPost_ret (v := rowR (some r)) (by simp [E15.out, results, Tryd.results91, go_sem, e20, e21, e22, e23, e24, rowR, rowA]) rfl ⟨by rw [HK.out], ?_⟩
        exact (((((KD.out _).setCell (by simp) _).setCell (by simp) _).setCell (by simp) _).setCell (by simp) _).setCell (by simp) _
    · have hltI : ¬ (k : Int) < 74 := by omega
      have hno : findI 15 arg = none := by
        rw [HF.out, Hk.out, List.drop_of_length_le (by rw [tabO_len]; omega)]; rfl
      have HN := Lib.hid hno
      clear hno Hk
      go_wp2
      refine bodyPost_ret (v := rowR none) (by simp [results, Tryd.results91, go_sem, e20, e21, e22, e23, e24, rowR, rowA, irow0, strB]) rfl ⟨by rw [HN.out], ?_⟩
      exact ((((kB.setCell (by simp) _).setCell (by simp) _).setCell (by simp) _).setCell (by simp) _).setCell (by simp) _
theorem rFind (fn arg : Int) (hf : 0 ≤ fn ∧ fn ≤ 255) (w : World) : Calls Tryd.prog 91 #[.agg #[.int .u8 fn, .int .i32 arg]] w (RetV (rowR (findI fn arg)) w) := by
  by_cases h : fn = 15
  · subst h; exact rFindO arg w
  · exact rFindF fn arg hf h w
end Go.Proofs.YtljeecocbcffcaaDoor

/- The reference's Named, walked. -/
namespace Go.Proofs.YtljeecocbcffcaaDoor
open Go.RowKit
set_option linter.unusedVariables false
set_option linter.unusedSimpArgs false

/-- An instruction, or none, as Named hands it back. -/
def instR (o : Option IRow) : Value := .tuple #[.agg #[.int .u8 (o.getD irow0).fn, .int .i32 (o.getD irow0).arg], .bool o.isSome]
theorem tab_len : (tabF ++ tabO).length = 87 := rfl
theorem row_info : (Tryd.prog.info? 139).map (fun i => (i.zero, i.size, i.bytes)) = some (some (.agg #[.int .u8 0, .int .i32 0, .string ByteArray.empty, .int .i64 0, .int .i64 0]), 5, 40) := by kernel_rfl
theorem rows_one (l : List IRow) : ∀ u ∈ (rowsV l).toList, u.oneCell' = true := by
  intro u hu
  simp only [rowsV] at hu
  obtain ⟨r, _, h⟩ := List.mem_flatMap.1 hu
  simp only [rowCells, List.mem_cons, List.not_mem_nil, or_false] at h
  rcases h with rfl | rfl | rfl | rfl | rfl <;> rfl
theorem rowsV_size (l : List IRow) : (rowsV l).size = l.length * 5 := by
  simp only [rowsV, List.size_toArray, List.length_flatMap]
  induction l with
  | nil => rfl
  | cons r l ih => simp [rowCells] at ih ⊢; omega
theorem rowsV_app (l m : List IRow) : (rowsV l).toList ++ (rowsV m).toList = (rowsV (l ++ m)).toList := by simp [rowsV]
set_option maxRecDepth 100000 in
theorem rNamed (S : ByteArray) (w : World) : Calls Tryd.prog 73 #[.string S] w (RetV (instR (namedI S.data.toList)) w) := by
  obtain ⟨i0, hi0, hz0, hz1, hz2⟩ := info_parts row_info
  have hN : namedI S.data.toList = (tabF ++ tabO).find? fun r => r.name == S.data.toList := rfl
  have HN := Lib.hid hN
  clear hN
  obtain ⟨wb, hwb⟩ : ∃ wb, w.alloc (.cells #[.int .u8 0, .int .i32 0] 59) = wb := ⟨_, rfl⟩
  have hbs : wb.heap.size = w.heap.size + 1 := by rw [← hwb]; simp
  have hB0 : Below w.heap.size w wb := by rw [← hwb]; exact (Below.refl _ _).alloc (Nat.le_refl _) _
  have k0 : Blk wb w.heap.size 59 #[.int .u8 0, .int .i32 0] := by rw [← hwb]; exact Blk.new w _ _
  have hownF := (World.ownsRow_lit (base := w.heap.size + 1) (e := 139) (size := 5) wb (rowsV tabF) 13 (by omega) (by unfold maxLen; omega) (by rw [rowsV_size]; rfl)).alloc (.cells (rowsV tabO) 139)
  have hownO := World.ownsRow_lit (base := w.heap.size + 1) (e := 139) (size := 5) (wb.alloc (.cells (rowsV tabF) 139)) (rowsV tabO) 74 (by simp; omega) (by unfold maxLen; omega) (by rw [rowsV_size]; rfl)
  have hrO := Reads.of_own hownO
  simp only [World.size_alloc, hbs] at hrO hownO
  rw [hbs] at hownF
  have k2 := (k0.alloc (.cells (rowsV tabF) 139)).alloc (.cells (rowsV tabO) 139)
  have kB := (hB0.alloc (by omega) (.cells (rowsV tabF) 139)).alloc (by simp <;> omega) (.cells (rowsV tabO) 139)
  obtain ⟨W2, hW2⟩ : ∃ W2, (wb.alloc (.cells (rowsV tabF) 139)).alloc (.cells (rowsV tabO) 139) = W2 := ⟨_, rfl⟩
  have hs2 : W2.heap.size = w.heap.size + 3 := by rw [← hW2]; simp [hbs]
  rw [hW2] at hownF hownO hrO k2 kB
  have HW2 := Lib.hid hW2
  have Hwb := Lib.hid hwb
  have hoF := rows_one tabO
  have hss : S.size = S.size := rfl
  clear hW2 hwb hownO hB0 k0
  go_enter Tryd.func73, Tryd.ntmps73
  go_wp2_with (first
    | (go_at_call 89; rw [Hwb.out]; refine (rFunctions _).mono ?_; rintro e w1 ⟨rfl, rfl⟩; rw [hbs])
    | (go_at_call 90; refine (rOperations _).mono ?_; rintro e w1 ⟨rfl, rfl⟩; rw [HW2.out, World.size_alloc, hbs])
    | (at_builtin; refine wpList_append_any W2 rfl (.tmp 6) (.tmp 7) 136 rfl (w.heap.size + 1) 139 i0 _ 5 40 Tryd.underlying136 hi0 hz0 hz1 hz2 rfl (by decide) _ 13 _ rfl hownF _ (some ⟨w.heap.size + 1 + 1, 0, none⟩) 74 74 _ rfl hrO hoF (by unfold maxLen; omega) (by omega) (by omega) ?_; intro v' w' hown' hgr hat))
  have hgr2 : W2.grownBy w' (some (w.heap.size + 1)) := hgr
  have kB' := kB.grown hgr2 kB.size (fun k e => by injection e; omega)
  have k2' := k2.grown hgr2 (by simp)
  rw [rowsV_app] at hown'
  clear hgr hat hgr2 kB k2 hrO hownF HW2 Hwb hoF hss
  obtain ⟨g, cap, rfl, hgb, hgl⟩ := hown'.form (by omega)
  have hr := Reads.of_own hown'
  obtain ⟨ad, e, hb, hc⟩ := hr.2 (by omega)
  injection e with e
  subst e
  have HC := Lib.hid hc
  clear hown' hr hc hb
  have h87 : (13 : Int) + 74 = 87 := rfl
  have e20 := k2'.cell 0
  have e21 := k2'.cell 1
  simp at e20 e21
  have f20 := k2'.frozen 0
  have f21 := k2'.frozen 1
  have l2 := k2'.lt
  go_loop [5] (fun i => ∃ k : Nat, k ≤ 87 ∧ i = .int .i64 k ∧ Hid ((tabF ++ tabO).find? (fun r => r.name == S.data.toList) = ((tabF ++ tabO).drop k).find? (fun r => r.name == S.data.toList))) (fun i => 87 - (intOf i).toNat)
  case atStart => exact ⟨0, by omega, rfl, rfl⟩
  case round =>
    obtain ⟨k, hk, rfl, Hk⟩ := hrel
    by_cases hlt : k < 87
    · have hltI : (k : Int) < 87 := by omega
      obtain ⟨r, hr⟩ : ∃ r, (tabF ++ tabO)[k]? = some r := ⟨_, List.getElem?_eq_getElem (by rw [tab_len]; exact hlt)⟩
      obtain ⟨v0, v1, v2, v3, v4⟩ := rowsV_at hr
      rw [← Array.getElem?_toList] at v0 v1 v2
      have d0 := HC.out (k * 5) _ v0
      have d1 := HC.out (k * 5 + 1) _ v1
      have d2 := HC.out (k * 5 + 2) _ v2
      rw [Addr.add_lit] at d0 d1 d2
      simp only [Nat.zero_add] at d0 d1 d2
      have hdrop : (tabF ++ tabO).drop k = r :: (tabF ++ tabO).drop (k + 1) := by
        obtain ⟨h, hr⟩ := List.getElem?_eq_some_iff.1 hr
        rw [List.drop_eq_getElem_cons h, hr]
      have hk2 := Hk.out
      rw [hdrop, List.find?_cons] at hk2
      have hm' : ((strB r.name).toList == S.toList) = (r.name == S.data.toList) := by rw [ByteArray.toList_eq, ByteArray.toList_eq]; rfl
      clear v0 v1 v2 v3 v4 hr hdrop
      cases hm : (r.name == S.data.toList)
      · rw [hm] at hk2 hm'
        have HK := Lib.hid hk2
        clear hk2 Hk hm
        go_wp2
        go_round
        case rel => exact ⟨k + 1, by omega, by go_num, HK.out⟩
        case measure => simp [intOf]; omega
      · rw [hm] at hk2 hm'
        have HK := Lib.hid (HN.out.trans hk2)
        clear hk2 Hk hm
        go_wp2
        refine bodyPost_ret (v := instR (some r)) (by simp [results, Tryd.results73, go_sem, e20, e21, instR]) rfl ⟨by rw [HK.out], ?_⟩
        exact (kB'.setCell (by simp) _).setCell (by simp) _
    · have hltI : ¬ (k : Int) < 87 := by omega
      have hno : namedI S.data.toList = none := by
        rw [HN.out, Hk.out, List.drop_of_length_le (by rw [tab_len]; omega)]; rfl
      have HNO := Lib.hid hno
      clear hno Hk
      go_wp2
      refine bodyPost_ret (v := instR none) (by simp [results, Tryd.results73, go_sem, e20, e21, instR, irow0]) rfl ⟨by rw [HNO.out], ?_⟩
      exact (kB'.setCell (by simp) _).setCell (by simp) _
end Go.Proofs.YtljeecocbcffcaaDoor

/- The reference's Text, walked. -/
namespace Go.Proofs.YtljeecocbcffcaaDoor
open Go.RowKit
set_option linter.unusedVariables false
set_option linter.unusedSimpArgs false

def textV (fn arg : Int) : Value := .tuple #[.string (strB (textI fn arg).1), .int .i64 (textI fn arg).2]
theorem textI_none {fn arg : Int} (h : findI fn arg = none) : textI fn arg = ([], 2) := by unfold textI; rw [h]
theorem textI_15 {arg : Int} {r : IRow} (h : findI 15 arg = some r) : textI 15 arg = (r.name, 0) := by unfold textI; rw [h]; rfl
theorem textI_fn {fn arg : Int} {r : IRow} (h : findI fn arg = some r) (h15 : fn ≠ 15) : textI fn arg = (r.name ++ 32 :: textL arg false, 0) := by unfold textI; rw [h]; simp [h15]
theorem strB_sp (l m : List UInt8) : strB l ++ ⟨#[32]⟩ ++ strB m = strB (l ++ 32 :: m) := by
  have e : (⟨#[32]⟩ : ByteArray) = strB [32] := rfl
  rw [e, str_append, str_append, List.append_assoc]; rfl
theorem tt_eq {l l' : List UInt8} {k k' : Int} (h : (l, k) = (l', k')) : Ending.returned (.tuple #[.string (strB l), .int .i64 k]) = .returned (.tuple #[.string (strB l'), .int .i64 k']) := by
  injection h with h1 h2; rw [h1, h2]
theorem strB_size (l : List UInt8) : (strB l).size = l.length := rfl
theorem textS_size (a : Int) (h : Bool) (ha : is32 a) : (strB (textL a h)).size ≤ 11 := by
  rw [strB_size]; exact (textL_len (g := h) ha).2
end Go.Proofs.YtljeecocbcffcaaDoor

/- The reference's Read, walked. -/
namespace Go.Proofs.YtljeecocbcffcaaDoor
open Go.RowKit
set_option linter.unusedVariables false
set_option linter.unusedSimpArgs false

noncomputable def readIV (l : List UInt8) : Value := .tuple #[.agg #[.int .u8 (readI l).1, .int .i32 (readI l).2.1], .int .i64 (readI l).2.2]
theorem tw_at (c : UInt8) : ∀ (l : List UInt8) (k : Nat), k < (l.takeWhile (· != c)).length → ∃ d, l[k]? = some d ∧ d ≠ c
  | [], k, h => by simp at h
  | a :: l, k, h => by
    by_cases hac : a = c
    · simp [hac] at h
    · have e : (a :: l).takeWhile (· != c) = a :: l.takeWhile (· != c) := by simp [hac]
      rw [e] at h
      cases k with
      | zero => exact ⟨a, rfl, hac⟩
      | succ k => exact tw_at c l k (by simpa using h)
theorem tw_end (c : UInt8) : ∀ (l : List UInt8), (l.takeWhile (· != c)).length < l.length → l[(l.takeWhile (· != c)).length]? = some c
  | [], h => by simp at h
  | a :: l, h => by
    by_cases hac : a = c
    · simp [hac]
    · have e : (a :: l).takeWhile (· != c) = a :: l.takeWhile (· != c) := by simp [hac]
      rw [e] at h ⊢
      simp only [List.length_cons, List.getElem?_cons_succ]
      exact tw_end c l (by simpa using h)
theorem str_get {S : ByteArray} {k : Nat} {d : UInt8} (h : S.data.toList[k]? = some d) : ∃ hk : k < S.size, S[k] = d := by
  obtain ⟨h1, h2⟩ := List.getElem?_eq_some_iff.1 h
  exact ⟨by simpa using h1, by simpa [ByteArray.getElem_eq_getElem_data] using h2⟩
end Go.Proofs.YtljeecocbcffcaaDoor

/- The program's row of a function: walked. -/
namespace Go.Proofs.YtljeecocbcffcaaDoor
open Go.RowKit
set_option linter.unusedVariables false
set_option linter.unusedSimpArgs false

/-- The mnemonics of the functions, as the program lays them. -/
def fnL : List (List UInt8) := [[106], [108, 100, 108, 112], [], [108, 100, 110, 108], [108, 100, 99], [108, 100, 110, 108, 112], [], [108, 100, 108], [97, 100, 99], [99, 97, 108, 108], [99, 106], [97, 106, 119], [101, 113, 99], [115, 116, 108], [115, 116, 110, 108], []]
def fnGL : Nat := 0
def fnV : Array Value := (fnL.map fun l => Value.string (strB l)).toArray
def FnsAt (w : World) : Prop := ∃ t fr, w.heap[fnGL]? = some (.cells fnV t fr)
theorem FnsAt.cell {w : World} (h : FnsAt w) {i : Nat} {s : List UInt8} (hi : fnL[i]? = some s) : w.cell? ⟨fnGL, i, none⟩ = some (.string (strB s)) := by
  obtain ⟨t, fr, h⟩ := h
  rw [cell_of_row w fnGL i fnV t fr h]
  simp [fnV, hi]
theorem FnsAt.lt {w : World} (h : FnsAt w) : fnGL < w.heap.size := by
  obtain ⟨t, fr, h⟩ := h
  exact (Array.getElem?_eq_some_iff.1 h).1
/-- What the package-level variables hold, in every world that keeps what lies below B. -/
def Laid5 (B : Nat) (w : World) : Prop := Laid B w ∧ Blanks B w ∧ ∀ w', Below B w w' → FnsAt w'
theorem Laid5.on {B : Nat} {w w1 : World} (h : Laid5 B w) (hb : Below B w w1) : Laid5 B w1 :=
  ⟨h.1.on hb, fun w' h' => h.2.1 w' (hb.trans h'), fun w' h' => h.2.2 w' (hb.trans h')⟩
theorem Laid5.call {B : Nat} {w w1 : World} (h : Laid5 B w) (hb : Below w.heap.size w w1) (hB : B ≤ w.heap.size) : Laid5 B w1 := h.on (hb.mono hB)
theorem Laid5.fns {B : Nat} {w : World} (h : Laid5 B w) : FnsAt w := h.2.2 w (Below.refl _ _)

def usesL : List UInt8 := [48, 48, 32, 48, 49, 32, 46, 46, 32, 49, 49, 32, 48, 49, 32, 49, 49, 32, 46, 46, 32, 48, 49, 32, 49, 49, 32, 51, 49, 32, 49, 48, 32, 48, 48, 32, 49, 49, 32, 49, 48, 32, 50, 48]
theorem fns_spec : ∀ n, n < 16 → (tabF.find? (fun r => r.fn == n)).map (·.name) = (if fnL[n]? = some [] then none else fnL[n]?) := by decide
theorem uses_spec : ∀ r ∈ tabF, (usesL.drop (3 * r.fn)).head? = some (dig r.takes) ∧ (usesL.drop (3 * r.fn))[1]? = some (dig r.leaves) ∧ fnL[r.fn]? = some r.name ∧ 3 * r.fn + 1 < 44 := by decide
theorem uses_ext (n : Nat) : ((⟨#[48, 48, 32, 48, 49, 32, 46, 46, 32, 49, 49, 32, 48, 49, 32, 49, 49, 32, 46, 46, 32, 48, 49, 32, 49, 49, 32, 51, 49, 32, 49, 48, 32, 48, 48, 32, 49, 49, 32, 49, 48, 32, 50, 48]⟩ : ByteArray).extract (3 * n) 44).data.toList = usesL.drop (3 * n) := by
  have h := ext_drop ⟨#[48, 48, 32, 48, 49, 32, 46, 46, 32, 49, 49, 32, 48, 49, 32, 49, 49, 32, 46, 46, 32, 48, 49, 32, 49, 49, 32, 51, 49, 32, 49, 48, 32, 48, 48, 32, 49, 49, 32, 49, 48, 32, 50, 48]⟩ (3 * n)
  have e : (⟨#[48, 48, 32, 48, 49, 32, 46, 46, 32, 49, 49, 32, 48, 49, 32, 49, 49, 32, 46, 46, 32, 48, 49, 32, 49, 49, 32, 51, 49, 32, 49, 48, 32, 48, 48, 32, 49, 49, 32, 49, 48, 32, 50, 48]⟩ : ByteArray).size = 44 := rfl
  rw [e] at h
  rw [h]
  rfl
/-- A row, or none, as the program hands it back. -/
def rowP (o : Option IRow) : Value := .tuple #[rowV (o.getD irow0), .bool o.isSome]
theorem findF_row {n : Nat} {arg : Int} {r : IRow} (h : r ∈ tabF) (hn : r.fn = n) : findI n arg = some r := by
  have h15 : ¬ (n : Int) = 15 := by have := (tabF_ok r h).1; omega
  unfold findI
  rw [if_neg h15]
  have := find_nodup (fun q : IRow => q.fn) tabF fns_nodup r h
  have e : (fun q : IRow => ((q.fn : Nat) : Int) == (n : Int)) = fun q => q.fn == r.fn := by
    funext q; rw [Bool.eq_iff_iff]; simp; omega
  rw [e]; exact this

set_option maxRecDepth 100000 in
theorem pFindF (n : Nat) (arg : Int) (r : IRow) (hr : r ∈ tabF) (hn : r.fn = n) (w : World) (hL : FnsAt w) :
    Calls Tryd.prog 87 #[.agg #[.int .u8 n, .int .i32 arg]] w (RetV (rowP (findI n arg)) w) := by
  rw [findF_row hr hn]
  obtain ⟨u0, u1, u2, u3⟩ := uses_spec r hr
  rw [hn] at u0 u1 u2 u3
  obtain ⟨t1, t2, t3, t4, t5, t6, t7, t8⟩ := tabF_ok r hr
  have c0 : w.cell? ⟨0, n, none⟩ = some (.string (strB r.name)) := hL.cell u2
  have hg' : 0 < w.heap.size := hL.lt
  have hlt : n < 16 := by omega
  have hltI : (n : Int) < 16 := by omega
  have hn0 : (0 : Int) ≤ n := by omega
  have hV : rowP (some r) = .tuple #[.agg #[.int .i32 r.arg, .string (strB r.name), .int .i64 r.takes, .int .i64 r.leaves], .bool true] := rfl
  rw [hV, t2]
  have hne3 : (strB r.name).toList.isEmpty = false := by
    rw [ByteArray.toList_eq]
    cases h : r.name with
    | nil => exact absurd h t3
    | cons c l => rfl
  obtain ⟨S, hS⟩ : ∃ S, (⟨#[48, 48, 32, 48, 49, 32, 46, 46, 32, 49, 49, 32, 48, 49, 32, 49, 49, 32, 46, 46, 32, 48, 49, 32, 49, 49, 32, 51, 49, 32, 49, 48, 32, 48, 48, 32, 49, 49, 32, 49, 48, 32, 50, 48]⟩ : ByteArray).extract (3 * n) 44 = S := ⟨_, rfl⟩
  have hSd : S.data.toList = usesL.drop (3 * n) := by
    rw [← hS]; exact uses_ext n
  rw [← hSd] at u0 u1
  have hx1 : 1 < S.size := by
    have h := (List.getElem?_eq_some_iff.1 u1).1
    rw [Array.length_toList] at h
    exact h
  have hx0 : 0 < S.size := by omega
  have X0 : S[0] = dig r.takes := str_at (by rw [List.head?_eq_getElem?] at u0; simpa using u0) hx0
  have X1 : S[1] = dig r.leaves := str_at (by simpa using u1) hx1
  have HS := Lib.hid hS
  have hD := Lib.hid (fun d (h : d < 16) w => idigitq d h w)
  generalize hNM : strB r.name = NM at *
  generalize r.takes = dt at *
  generalize r.leaves = dl at *
  clear u0 u1 u2 hS hSd hL hNM hV t1 t2 t3 t4 t5 t8 hr hn
  go_enter Tryd.func87, Tryd.ntmps87
  go_wp2
  go_step3
  go_upto_region 3 with (fail)
  rw [HS.out]
  clear HS
  refine wp_region_quiet_tail 13 (by kernel_rfl) (by kernel_rfl) ?_
  simp only [List.take_succ_cons, List.take_zero, List.drop_succ_cons, List.drop_zero]
  repeat (first
          | go_big_quiet_step (fail)
          | (go_big_quiet_want; go_big_quiet_op; apply Exists.intro; refine ⟨?_, ?_⟩; (exact hD.out _ (by omega) _); go_big_quiet_on))
  refine wpQuiet_nil ?_
  go_wp2
  rw [Exit.noGoto_ret]
  refine bodyPost_ret (v := .tuple #[.agg #[.int .i32 0, .string NM, .int .i64 dt, .int .i64 dl], .bool true]) (by simp [results, Tryd.results87, go_sem]) rfl ⟨rfl, ?_⟩
  exact (((((Below.refl _ w).alloc (Nat.le_refl _) _).alloc (by simp) _).alloc (by simp <;> omega) _)).drew

set_option maxRecDepth 100000 in
theorem pFindN (n : Nat) (arg : Int) (hn : n < 256) (h15 : n ≠ 15) (hno : findI n arg = none) (w : World) (hL : FnsAt w) :
    Calls Tryd.prog 87 #[.agg #[.int .u8 n, .int .i32 arg]] w (RetV (rowP (findI n arg)) w) := by
  rw [hno]
  have hV : rowP none = .tuple #[.agg #[.int .i32 0, .string ⟨#[]⟩, .int .i64 0, .int .i64 0], .bool false] := rfl
  rw [hV]
  have h15b : ((n : Int) != 15) = true := by simp; omega
  have hg' : 0 < w.heap.size := hL.lt
  by_cases hlt : n < 16
  · have c0 : w.cell? ⟨0, n, none⟩ = some (.string ⟨#[]⟩) := by
      have h := fns_spec n hlt
      have hs : fnL[n]? = some [] := by
        cases hf : tabF.find? (fun r => r.fn == n) with
        | none => rw [hf] at h; by_cases h0 : fnL[n]? = some []
                  · exact h0
                  · rw [if_neg h0] at h
                    have : fnL[n]? = some (fnL[n]'hlt) := List.getElem?_eq_getElem hlt
                    rw [this] at h; cases h
        | some r =>
          exfalso
          have hm := List.mem_of_find?_eq_some hf
          have hp := List.find?_some hf
          rw [findF_row hm (by simpa using hp)] at hno
          cases hno
      exact hL.cell hs
    have hltI : (n : Int) < 16 := by omega
    have hn0 : (0 : Int) ≤ n := by omega
    clear hL hno
    go_enter Tryd.func87, Tryd.ntmps87
    go_wp2
    go_step3
    go_wp2
    rw [Exit.noGoto_ret]
    refine bodyPost_ret (v := .tuple #[.agg #[.int .i32 0, .string ⟨#[]⟩, .int .i64 0, .int .i64 0], .bool false]) (by simp [results, Tryd.results87, go_sem]) rfl ⟨rfl, ?_⟩
    exact (((((Below.refl _ w).alloc (Nat.le_refl _) _).alloc (by simp) _).alloc (by simp <;> omega) _))
  · have hltI : ¬ (n : Int) < 16 := by omega
    clear hL hno
    go_enter Tryd.func87, Tryd.ntmps87
    go_wp2
    go_step3
    go_wp2
    try rw [Exit.noGoto_ret]
    refine bodyPost_ret (v := .tuple #[.agg #[.int .i32 0, .string ⟨#[]⟩, .int .i64 0, .int .i64 0], .bool false]) (by simp [results, Tryd.results87, go_sem]) rfl ⟨rfl, ?_⟩
    exact (((((Below.refl _ w).alloc (Nat.le_refl _) _).alloc (by simp) _).alloc (by simp <;> omega) _))
end Go.Proofs.YtljeecocbcffcaaDoor
