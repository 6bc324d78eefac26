/- Texts that belong together, joined: what each one holds is told ahead of it. -/
import Derived.Test.YtbefmlioampgcaaGreatDoorHK3
import Derived.Lib.IndexBytes
import Derived.Lib.ParseIntBTie
import Derived.Shelf.Small.Strs
import Derived.Lib.Bytealg
set_option linter.unusedVariables false
set_option linter.unusedSimpArgs false
/- What is written as a line is read as that line, by the program and by the reference. -/
namespace Go.Proofs.YtbefmlioampgcaaGreatDoor
open Go.RowKit
set_option linter.unusedVariables false
set_option linter.unusedSimpArgs false

end Go.Proofs.YtbefmlioampgcaaGreatDoor

/- The reference's reading of a line, and the reading of a whole text. -/
namespace Go.Proofs.YtbefmlioampgcaaGreatDoor
open Go.RowKit
set_option linter.unusedVariables false
set_option linter.unusedSimpArgs false

def numHead (o : List UInt8) : Bool := match o with | [] => false | c :: _ => c == 45 || (decide (48 ≤ c.toNat) && decide (c.toNat ≤ 57))
/-- The line whose text this is. -/
def lineP (t : List UInt8) : Option LineL := if validB (parseP t) && oneT (parseP t) == t then some (parseP t) else none
/-- The lines whose text this is, or the number of the first one that is none. -/
def readT : Nat → List UInt8 → List LineL → Nat → List LineL × Nat × Int
  | 0, _, acc, _ => (acc, 0, 0)
  | f + 1, s, acc, n =>
    match s with
    | [] => (acc, 0, 0)
    | b :: s' =>
      match (b :: s').dropWhile (· != 10) with
      | [] => ([], n + 1, 5)
      | _ :: rest =>
        match lineP ((b :: s').takeWhile (· != 10)) with
        | none => ([], n + 1, 5)
        | some x => readT f rest (acc ++ [x]) (n + 1)
end Go.Proofs.YtbefmlioampgcaaGreatDoor

/- strings.Cut at one space, of a string of any length, walked; digits of the tables. -/
namespace Go.Proofs.YtbefmlioampgcaaGreatDoor
open Go.RowKit Go.Shelf

end Go.Proofs.YtbefmlioampgcaaGreatDoor

/- Read and Text, of the program and of the reference, walked. -/
namespace Go.Proofs.YtbefmlioampgcaaGreatDoor
open Go.RowKit
set_option linter.unusedVariables false
set_option linter.unusedSimpArgs false

theorem str_append (a b : List UInt8) : strB a ++ strB b = strB (a ++ b) := by
  apply ByteArray.ext
  simp [strB, ByteArray.data_append]
/-- Read's answer. -/
noncomputable def readV (l : List UInt8) : Value := .tuple #[.int .i32 (readF l).1, .int .i64 (readF l).2]
theorem str_size (S : ByteArray) : S.data.toList.length = S.size := by rw [Array.length_toList]; rfl

def HexNo (w : World) (e : Ending) (w' : World) : Prop := (∃ V : Int, e = .returned (.tuple #[.int .u32 V, .bool false])) ∧ Below w.heap.size w w'
/-- Not a hexadecimal text. -/
def NotHex (S : ByteArray) : Prop := ∀ c r, S.data.toList = c :: r → c ≠ 35
end Go.Proofs.YtbefmlioampgcaaGreatDoor

/- strings.Cut at one space, digits of the tables, and the maker of the rows' iterator, walked. -/
namespace Go.Proofs.YtbefmlioampgcaaGreatDoor
open Go.RowKit Go.Shelf

def sp1 : ByteArray := ⟨#[32]⟩
/-- strings.Cut at one space. -/
def cutV (l : List UInt8) : Value := .tuple #[.string (strB (l.takeWhile (· != 32))), .string (strB (l.dropWhile (· != 32)).tail), .bool (!(l.dropWhile (· != 32)).isEmpty)]
theorem ext_drop (S : ByteArray) (k : Nat) : S.extract k S.size = strB (S.data.toList.drop k) := by
  apply ByteArray.ext
  simp only [strB, ByteArray.data_extract]
  apply Array.ext'
  simp only [Array.toList_extract, List.extract_eq_take_drop]
  rw [List.take_of_length_le (by rw [List.length_drop, str_size]; exact Nat.le_refl _)]
def RetD (v : Value) (w : World) (e : Ending) (w' : World) : Prop := e = .returned v ∧ ∃ n, w' = w.drewN n
theorem dig_idx : ∀ d, d < 16 → Lib.indexByte [48, 49, 50, 51, 52, 53, 54, 55, 56, 57, 65, 66, 67, 68, 69, 70] (dig d) = d := by decide
theorem idigit (d : Nat) (h : d < 16) (w : World) : Calls Tryz.prog 104 #[.int .u8 (dig d).toNat] w (RetQ (.int .i32 d) w) := by
  have hI := Lib.hid (fun w => Any.strings_IndexByte Tryz.lays137 ⟨#[48, 49, 50, 51, 52, 53, 54, 55, 56, 57, 65, 66, 67, 68, 69, 70]⟩ ((dig d).toNat : Int) w)
  have e := dig_idx d h
  have e2 : (((dig d).toNat : Int).toNat).toUInt8 = dig d := by simp
  go_enter Tryz.func104, Tryz.ntmps104
  go_wp2_with (first
    | (go_at_call 107; refine (hI.out _).mono ?_; rintro e w1 ⟨rfl, rfl⟩; rw [e2, e]))
  go_ret
  exact ⟨rfl, rfl⟩
theorem irows (w : World) : Calls Tryz.prog 105 #[] w (RetQ (.func (.func 108) #[] #[]) w) := by
  go_enter Tryz.func105, Tryz.ntmps105
  go_wp2
  go_ret
  exact ⟨rfl, rfl⟩
end Go.Proofs.YtbefmlioampgcaaGreatDoor
