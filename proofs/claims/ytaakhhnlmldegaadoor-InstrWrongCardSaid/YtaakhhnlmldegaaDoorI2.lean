
/- strings.Cut at one space, digits of the tables, and the maker of the rows' iterator, walked. -/
import Derived.Test.YtaakhhnlmldegaaDoorI1
import Derived.Test.YtaakhhnlmldegaaDoorW9
namespace Go.Proofs.YtaakhhnlmldegaaDoor
open Go.RowKit Go.Shelf

def sp1 : ByteArray := ⟨#[32]⟩
theorem idx_one : Lib.indexByte [32] 32 = 0 := rfl
theorem sp1_list : (({ data := #[32] } : ByteArray)).toList = [32] := by rw [ByteArray.toList_eq]
theorem iIndex (S : ByteArray) (w : World) : Calls Tryd.prog 43 #[.string S, .string ⟨#[32]⟩] w (RetQ (.int .i64 (Lib.indexByte S.data.toList 32)) w) := by
  have hI := Lib.hid (fun w => Any.stringslite_IndexByte Tryd.lays217 S 32 w)
  by_cases h : S.data.toList = [32]
  · have e : Lib.indexByte S.data.toList 32 = 0 := by rw [h]; rfl
    rw [e]
    have h2 : ([32] == S.toList) = true := by rw [ByteArray.toList_eq, h]; rfl
    clear hI h e
    go_enter Tryd.func43, Tryd.ntmps43
    go_wp2
    go_ret
    exact ⟨rfl, rfl⟩
  · have h2 : ([32] == S.toList) = false := by
      rw [ByteArray.toList_eq, beq_eq_false_iff_ne]; exact fun e => h e.symm
    clear h
    go_enter Tryd.func43, Tryd.ntmps43
    go_wp2_with (first
      | (go_at_call 58; refine (hI.out _).mono ?_; rintro e w1 ⟨rfl, rfl⟩))
    go_ret
    exact ⟨rfl, rfl⟩
/-- strings.Cut at one space. -/
def cutV (l : List UInt8) : Value := .tuple #[.string (strB (l.takeWhile (· != 32))), .string (strB (l.dropWhile (· != 32)).tail), .bool (!(l.dropWhile (· != 32)).isEmpty)]
theorem ext_take (S : ByteArray) (k : Nat) : S.extract 0 k = strB (S.data.toList.take k) := by
  apply ByteArray.ext
  simp only [strB, ByteArray.data_extract]
  apply Array.ext'
  simp only [Array.toList_extract, List.extract_eq_take_drop, Nat.sub_zero, List.drop_zero]
theorem ext_drop (S : ByteArray) (k : Nat) : S.extract k S.size = strB (S.data.toList.drop k) := by
  apply ByteArray.ext
  simp only [strB, ByteArray.data_extract]
  apply Array.ext'
  simp only [Array.toList_extract, List.extract_eq_take_drop]
  rw [List.take_of_length_le (by rw [List.length_drop, str_size]; exact Nat.le_refl _)]
def RetD (v : Value) (w : World) (e : Ending) (w' : World) : Prop := e = .returned v ∧ ∃ n, w' = w.drewN n
theorem iCut0 (S : ByteArray) (w : World) (hs : S.size ≤ 9223372036854775806) : Calls Tryd.prog 49 #[.string S, .string ⟨#[32]⟩] w (RetD (cutV S.data.toList) w) := by
  have hI := iIndex S
  rw [idx_tw] at hI
  unfold cutV
  by_cases h : S.data.toList.dropWhile (· != 32) = []
  · rw [if_pos h] at hI
    have e1 : strB (S.data.toList.takeWhile (· != 32)) = S := by rw [tw_none 32 _ h]; rfl
    rw [h, e1]
    have HI := Lib.hid hI
    clear hI h e1
    go_enter Tryd.func49, Tryd.ntmps49
    go_wp2_with (first
      | (go_at_call 43; refine (HI.out _).mono ?_; rintro e w1 ⟨rfl, rfl⟩))
    go_ret3
    exact ⟨rfl, 0, rfl⟩
  · rw [if_neg h] at hI
    have hk := tw_lt 32 _ h
    rw [str_size] at hk
    have e1 := take_tw 32 S.data.toList
    have e2 := drop_tw1 32 S.data.toList
    rw [← e1, ← e2]
    have e3 : (S.data.toList.dropWhile (· != 32)).isEmpty = false := by simpa using h
    rw [e3]
    rw [← ext_take, ← ext_drop]
    generalize (S.data.toList.takeWhile (· != 32)).length = k at hI hk ⊢
    have HI := Lib.hid hI
    have k0 : (0 : Int) ≤ k := by omega
    have k1 : (k : Int) ≤ S.size := by omega
    have k2 : (0 : Int) ≤ (k : Int) + 1 := by omega
    have k3 : (k : Int) + 1 ≤ S.size := by omega
    clear hI h e1 e2 e3
    go_enter Tryd.func49, Tryd.ntmps49
    go_wp2_with (first
      | (go_at_call 43; refine (HI.out _).mono ?_; rintro e w1 ⟨rfl, rfl⟩))
    go_region
    all_goals
      go_wp2
      go_ret3
      exact ⟨rfl, 1, rfl⟩
theorem iCut (S : ByteArray) (w : World) (hs : S.size ≤ 9223372036854775806) : Calls Tryd.prog 33 #[.string S, .string ⟨#[32]⟩] w (RetD (cutV S.data.toList) w) := by
  have HI := Lib.hid (fun w => iCut0 S w hs)
  unfold cutV at HI ⊢
  generalize strB (S.data.toList.takeWhile (· != 32)) = a at HI ⊢
  generalize strB (S.data.toList.dropWhile (· != 32)).tail = b at HI ⊢
  generalize (!(S.data.toList.dropWhile (· != 32)).isEmpty) = c at HI ⊢
  go_enter Tryd.func33, Tryd.ntmps33
  go_wp2_with (first
    | (go_at_call 49; refine (HI.out _).mono ?_; rintro e w1 ⟨rfl, n, rfl⟩))
  go_ret3
  exact ⟨rfl, n, rfl⟩
theorem dig_idx : ∀ d, d < 16 → Lib.indexByte [48, 49, 50, 51, 52, 53, 54, 55, 56, 57, 65, 66, 67, 68, 69, 70] (dig d) = d := by decide
theorem idigit (d : Nat) (h : d < 16) (w : World) : Calls Tryd.prog 32 #[.int .u8 (dig d).toNat] w (RetQ (.int .i32 d) w) := by
  have hI := Lib.hid (fun w => Any.strings_IndexByte Tryd.lays137 ⟨#[48, 49, 50, 51, 52, 53, 54, 55, 56, 57, 65, 66, 67, 68, 69, 70]⟩ ((dig d).toNat : Int) w)
  have e := dig_idx d h
  have e2 : (((dig d).toNat : Int).toNat).toUInt8 = dig d := by simp
  go_enter Tryd.func32, Tryd.ntmps32
  go_wp2_with (first
    | (go_at_call 48; refine (hI.out _).mono ?_; rintro e w1 ⟨rfl, rfl⟩; rw [e2, e]))
  go_ret
  exact ⟨rfl, rfl⟩
theorem irows (w : World) : Calls Tryd.prog 20 #[] w (RetQ (.func (.func 35) #[] #[]) w) := by
  go_enter Tryd.func20, Tryd.ntmps20
  go_wp2
  go_ret
  exact ⟨rfl, rfl⟩
end Go.Proofs.YtaakhhnlmldegaaDoor
