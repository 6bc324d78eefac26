/- Texts that belong together, joined: what each one holds is told ahead of it. -/
import Derived.Test.YtbefmlioampgcaaGreatDoorHK2
import Derived.Lib.EndianBits
import Derived.Laws.BitsLemmas
import Derived.Laws.IdiomStrings
import Derived.Lib.OthersKept
import Derived.Laws.RangeAny
import Derived.Lib.ParseIntBCases
import Derived.Lib.Hide
import Derived.Lib.IndexMore
import Derived.Lib.ParseIntB
import Derived.Test.YtbefmlioampgcaaGreatDoorHK1
import Derived.BigRegion
set_option linter.unusedVariables false
set_option linter.unusedSimpArgs false
/- Texts of words, walked. -/
namespace Go.Proofs.YtbefmlioampgcaaGreatDoor
open Go.RowKit
set_option linter.unusedVariables false
set_option linter.unusedSimpArgs false


/-- A digit's sign. -/
def dig (d : Nat) : UInt8 := if d < 10 then UInt8.ofNat (48 + d) else UInt8.ofNat (55 + d)
/-- The last n digits of t in the base b. -/
def digL (b : Nat) : Nat → Nat → List UInt8
  | 0, _ => []
  | i + 1, t => dig (t / b ^ i % b) :: digL b i t
theorem digL_length (b i t : Nat) : (digL b i t).length = i := by
  induction i with
  | zero => rfl
  | succ i ih => simp [digL, ih]
def u8s (l : List UInt8) : List Value := l.map fun c => .int .u8 c.toNat


/-- The library's globals that strconv reads, as laid; and so whatever is done from the block B on. -/
def Laid (B : Nat) (w : World) : Prop := ∃ tp p tq q, ∀ w', Below B w w' →
  w'.var? Tryz.prog "strconv.ErrSyntax" = some #[.iface tp p] ∧ w'.var? Tryz.prog "strconv.ErrRange" = some #[.iface tq q] ∧ Lib.TabIs Tryz.prog w' "internal/strconv.uint64pow10" .u64 Lib.pow10Tab
theorem Laid.on {B : Nat} {w w1 : World} (h : Laid B w) (hb : Below B w w1) : Laid B w1 := by
  obtain ⟨tp, p, tq, q, h⟩ := h
  exact ⟨tp, p, tq, q, fun w' h' => h w' (hb.trans h')⟩
theorem Laid.call {B : Nat} {w w1 : World} (h : Laid B w) (hb : Below w.heap.size w w1) (hB : B ≤ w.heap.size) : Laid B w1 := h.on ⟨hb.os, hb.tape, hb.output, hb.size, fun i hi => hb.block i (by omega)⟩
theorem Laid.tab {B : Nat} {w : World} (h : Laid B w) : Lib.TabIs Tryz.prog w "internal/strconv.uint64pow10" .u64 Lib.pow10Tab := by
  obtain ⟨tp, p, tq, q, h⟩ := h
  exact (h w (Below.refl _ _)).2.2
theorem below_gr (w : World) (k : Nat) (os : Array Obj) : Below w.heap.size w (Sort.grow (w.drewN k) os) :=
  ⟨rfl, rfl, rfl, by simp [Sort.grow], fun i hi => by
    show ((w.drewN k).heap ++ os)[i]? = _
    rw [Array.getElem?_append_left (by show i < w.heap.size; omega)]
    rfl⟩
end Go.Proofs.YtbefmlioampgcaaGreatDoor

/- hexadecimal, walked. -/
namespace Go.Proofs.YtbefmlioampgcaaGreatDoor
open Go.RowKit
set_option linter.unusedVariables false
set_option linter.unusedSimpArgs false

def isHexB (c : UInt8) : Bool := decide (48 ≤ c.toNat) && decide (c.toNat ≤ 57) || decide (65 ≤ c.toNat) && decide (c.toNat ≤ 70)
def hv (c : UInt8) : Nat := if c.toNat ≤ 57 then c.toNat - 48 else c.toNat - 55
def valL (b : Nat) (l : List UInt8) : Nat := l.foldl (fun t c => b * t + hv c) 0
def HexPost (s : ByteArray) (w : World) (e : Ending) (w' : World) : Prop :=
  (s.data.toList.all isHexB = true ∧ e = .returned (.tuple #[.int .u32 ((valL 16 s.data.toList % 4294967296 : Nat) : Int), .bool ((s.size : Int) == 8)]) ∨
    s.data.toList.all isHexB = false ∧ e = .returned (.tuple #[.int .u32 0, .bool false])) ∧ Below w.heap.size w w'

end Go.Proofs.YtbefmlioampgcaaGreatDoor

/- digits and value of the reference, walked. -/
namespace Go.Proofs.YtbefmlioampgcaaGreatDoor
open Go.RowKit
set_option linter.unusedVariables false
set_option linter.unusedSimpArgs false

def strB (l : List UInt8) : ByteArray := ⟨l.toArray⟩

end Go.Proofs.YtbefmlioampgcaaGreatDoor

/- value of the reference, walked. -/
namespace Go.Proofs.YtbefmlioampgcaaGreatDoor
open Go.RowKit
set_option linter.unusedVariables false
set_option linter.unusedSimpArgs false

/-- Which digit c is; 16 if it is none. -/
def hit (c : UInt8) : Nat := if isHexB c then hv c else 16
theorem hit_dig (d : Nat) (h : d < 16) : hit (dig d) = d := by revert d; decide
def stepR (b : Nat) (c : UInt8) (t n : Nat) : Nat := if hit c < n then b * t + hit c else t
def valR (b : Nat) (l : List UInt8) : Nat := l.foldl (fun t c => stepR b c t b) 0
end Go.Proofs.YtbefmlioampgcaaGreatDoor

/- The plain law of texts: Read and Text. -/
namespace Go.Proofs.YtbefmlioampgcaaGreatDoor
open Go.RowKit
set_option linter.unusedVariables false
set_option linter.unusedSimpArgs false

theorem digL_snoc (b N t : Nat) : digL b (N + 1) t = digL b N (t / b) ++ [dig (t % b)] := by
  induction N with
  | zero => simp [digL]
  | succ N ih =>
    show dig (t / b ^ (N + 1) % b) :: digL b (N + 1) t = dig (t / b / b ^ N % b) :: digL b N (t / b) ++ [dig (t % b)]
    rw [ih, Nat.pow_succ, Nat.mul_comm, ← Nat.div_div_eq_div_mul]
    rfl
theorem dig_dec (d : Nat) (h : d < 10) : dig d = UInt8.ofNat (48 + d) := by rw [dig, if_pos h]

/-- The decimal digits, and how many they are. -/
theorem dec_N (u : Nat) : ∃ N, (N = 0 ∨ 10 ^ N ≤ u) ∧ u < 10 ^ (N + 1) ∧ Lib.decDigits u = digL 10 (N + 1) u := by
  induction u using Nat.strongRecOn with
  | _ u ih =>
    by_cases h : u < 10
    · refine ⟨0, .inl rfl, by simpa using h, ?_⟩
      rw [Lib.decDigits_one h]
      simp [digL, Nat.mod_eq_of_lt h, dig_dec u h]
    · obtain ⟨N, h1, h2, h3⟩ := ih (u / 10) (by omega)
      refine ⟨N + 1, .inr ?_, ?_, ?_⟩
      · rw [Nat.pow_succ]
        rcases h1 with rfl | h1
        · simp; omega
        · omega
      · rw [Nat.pow_succ]; omega
      · rw [Lib.decDigits, dif_neg h, h3, digL_snoc 10 (N + 1) u, dig_dec _ (Nat.mod_lt _ (by decide))]
theorem val_digL (b : Nat) (hb : 0 < b) (hb16 : b ≤ 16) (N t : Nat) : ∀ acc, (digL b N t).foldl (fun t c => stepR b c t b) acc = acc * b ^ N + t % b ^ N := by
  induction N with
  | zero => intro acc; simp [digL, Nat.mod_one]
  | succ N ih =>
    intro acc
    have hd := Nat.mod_lt (t / b ^ N) hb
    rw [digL, List.foldl_cons, ih, stepR, hit_dig _ (by omega), if_pos hd, Nat.pow_succ, Nat.mod_mul, Nat.add_mul]
    have e1 : acc * (b ^ N * b) = b * acc * b ^ N := by rw [Nat.mul_comm (b ^ N) b, ← Nat.mul_assoc, Nat.mul_comm acc b]
    have e2 : t / b ^ N % b * b ^ N = b ^ N * (t / b ^ N % b) := Nat.mul_comm _ _
    omega
theorem valR_digL (b : Nat) (hb : 0 < b) (hb16 : b ≤ 16) (N t : Nat) (h : t < b ^ N) : valR b (digL b N t) = t := by
  rw [valR, val_digL b hb hb16, Nat.zero_mul, Nat.zero_add, Nat.mod_eq_of_lt h]

theorem dec_len (u : Nat) (h : u ≤ 2147483648) : (Lib.decDigits u).length ≤ 10 := by
  obtain ⟨N, g1, g2, g3⟩ := dec_N u
  rw [g3, digL_length]
  rcases g1 with rfl | g1
  · omega
  · rcases Nat.lt_or_ge N 10 with h1 | h1
    · omega
    · have : (10 : Nat) ^ 10 ≤ 10 ^ N := Nat.pow_le_pow_right (by decide) h1
      omega

/-- A word's text. -/
def textL (v : Int) (h : Bool) : List UInt8 := if h then 35 :: digL 16 8 (u32 v).toNat else Lib.itoa v
/-- What Read has to say of a text. -/
def IsRead (l : List UInt8) (v er : Int) : Prop := (er = 0 ∧ is32 v ∧ ∃ h, l = textL v h) ∨ (er = 5 ∧ v = 0 ∧ ∀ v h, is32 v → l ≠ textL v h)
/-! The program's reading of eight hexadecimal digits. -/
end Go.Proofs.YtbefmlioampgcaaGreatDoor

/- The plain law of texts, second part: what Read has to say. -/
namespace Go.Proofs.YtbefmlioampgcaaGreatDoor
open Go.RowKit
set_option linter.unusedVariables false
set_option linter.unusedSimpArgs false

open Classical in
/-- The answer of Read. -/
noncomputable def readF (l : List UInt8) : Int × Int := if h : ∃ v g, is32 v ∧ l = textL v g then (h.choose, 0) else (0, 5)
/-! The program's reading. -/
/-! The reference's reading. -/
/-- The number that the reference tries. -/
def tryV : List UInt8 → Int
  | [] => 0
  | c :: r => if c = 35 then valR 16 r else if c = 45 then -(valR 10 r : Int) else valR 10 (c :: r)
theorem valR_dec (u : Nat) : valR 10 (Lib.decDigits u) = u := by
  obtain ⟨N, g1, g2, g3⟩ := dec_N u
  rw [g3, valR_digL 10 (by decide) (by decide) _ _ g2]
end Go.Proofs.YtbefmlioampgcaaGreatDoor

/- The tables of chapter 05, and what its functions answer, in plain words. -/
namespace Go.Proofs.YtbefmlioampgcaaGreatDoor
open Go.RowKit
set_option linter.unusedVariables false
set_option linter.unusedSimpArgs false

/-- A row of a table. -/
structure IRow where
  fn : Nat
  arg : Nat
  name : List UInt8
  takes : Nat
  leaves : Nat
deriving DecidableEq
/-- The functions: number, mnemonic, words taken and left. -/
def tabF : List IRow := [⟨0, 0, [106], 0, 0⟩,
  ⟨1, 0, [108, 100, 108, 112], 0, 1⟩,
  ⟨3, 0, [108, 100, 110, 108], 1, 1⟩,
  ⟨4, 0, [108, 100, 99], 0, 1⟩,
  ⟨5, 0, [108, 100, 110, 108, 112], 1, 1⟩,
  ⟨7, 0, [108, 100, 108], 0, 1⟩,
  ⟨8, 0, [97, 100, 99], 1, 1⟩,
  ⟨9, 0, [99, 97, 108, 108], 3, 1⟩,
  ⟨10, 0, [99, 106], 1, 0⟩,
  ⟨11, 0, [97, 106, 119], 0, 0⟩,
  ⟨12, 0, [101, 113, 99], 1, 1⟩,
  ⟨13, 0, [115, 116, 108], 1, 0⟩,
  ⟨14, 0, [115, 116, 110, 108], 2, 0⟩]
/-- The operations: code, mnemonic, words taken and left. -/
def tabO : List IRow := [⟨15, 0, [114, 101, 118], 2, 2⟩,
  ⟨15, 1, [108, 98], 1, 1⟩,
  ⟨15, 2, [98, 115, 117, 98], 2, 1⟩,
  ⟨15, 3, [101, 110, 100, 112], 1, 0⟩,
  ⟨15, 4, [100, 105, 102, 102], 2, 1⟩,
  ⟨15, 5, [97, 100, 100], 2, 1⟩,
  ⟨15, 6, [103, 99, 97, 108, 108], 1, 1⟩,
  ⟨15, 7, [105, 110], 3, 0⟩,
  ⟨15, 8, [112, 114, 111, 100], 2, 1⟩,
  ⟨15, 9, [103, 116], 2, 1⟩,
  ⟨15, 10, [119, 115, 117, 98], 2, 1⟩,
  ⟨15, 11, [111, 117, 116], 3, 0⟩,
  ⟨15, 12, [115, 117, 98], 2, 1⟩,
  ⟨15, 13, [115, 116, 97, 114, 116, 112], 2, 0⟩,
  ⟨15, 14, [111, 117, 116, 98, 121, 116, 101], 2, 0⟩,
  ⟨15, 15, [111, 117, 116, 119, 111, 114, 100], 2, 0⟩,
  ⟨15, 16, [115, 101, 116, 101, 114, 114], 0, 0⟩,
  ⟨15, 18, [114, 101, 115, 101, 116, 99, 104], 1, 1⟩,
  ⟨15, 19, [99, 115, 117, 98, 48], 2, 1⟩,
  ⟨15, 21, [115, 116, 111, 112, 112], 0, 0⟩,
  ⟨15, 22, [108, 97, 100, 100], 3, 1⟩,
  ⟨15, 25, [110, 111, 114, 109], 2, 3⟩,
  ⟨15, 26, [108, 100, 105, 118], 3, 2⟩,
  ⟨15, 27, [108, 100, 112, 105], 1, 1⟩,
  ⟨15, 29, [120, 100, 98, 108, 101], 1, 2⟩,
  ⟨15, 30, [108, 100, 112, 114, 105], 0, 1⟩,
  ⟨15, 31, [114, 101, 109], 2, 1⟩,
  ⟨15, 32, [114, 101, 116], 0, 0⟩,
  ⟨15, 33, [108, 101, 110, 100], 2, 0⟩,
  ⟨15, 34, [108, 100, 116, 105, 109, 101, 114], 0, 1⟩,
  ⟨15, 41, [116, 101, 115, 116, 101, 114, 114], 0, 1⟩,
  ⟨15, 43, [116, 105, 110], 1, 0⟩,
  ⟨15, 44, [100, 105, 118], 2, 1⟩,
  ⟨15, 46, [100, 105, 115, 116], 3, 1⟩,
  ⟨15, 47, [100, 105, 115, 99], 3, 1⟩,
  ⟨15, 48, [100, 105, 115, 115], 2, 1⟩,
  ⟨15, 49, [108, 109, 117, 108], 3, 2⟩,
  ⟨15, 50, [110, 111, 116], 1, 1⟩,
  ⟨15, 51, [120, 111, 114], 2, 1⟩,
  ⟨15, 52, [98, 99, 110, 116], 1, 1⟩,
  ⟨15, 53, [108, 115, 104, 114], 3, 2⟩,
  ⟨15, 54, [108, 115, 104, 108], 3, 2⟩,
  ⟨15, 55, [108, 115, 117, 109], 3, 2⟩,
  ⟨15, 56, [108, 115, 117, 98], 3, 1⟩,
  ⟨15, 57, [114, 117, 110, 112], 1, 0⟩,
  ⟨15, 58, [120, 119, 111, 114, 100], 2, 1⟩,
  ⟨15, 59, [115, 98], 2, 0⟩,
  ⟨15, 60, [103, 97, 106, 119], 1, 1⟩,
  ⟨15, 63, [119, 99, 110, 116], 1, 2⟩,
  ⟨15, 64, [115, 104, 114], 2, 1⟩,
  ⟨15, 65, [115, 104, 108], 2, 1⟩,
  ⟨15, 66, [109, 105, 110, 116], 0, 1⟩,
  ⟨15, 67, [97, 108, 116], 0, 0⟩,
  ⟨15, 68, [97, 108, 116, 119, 116], 0, 0⟩,
  ⟨15, 69, [97, 108, 116, 101, 110, 100], 0, 0⟩,
  ⟨15, 70, [97, 110, 100], 2, 1⟩,
  ⟨15, 71, [101, 110, 98, 116], 2, 1⟩,
  ⟨15, 72, [101, 110, 98, 99], 2, 1⟩,
  ⟨15, 73, [101, 110, 98, 115], 1, 1⟩,
  ⟨15, 74, [109, 111, 118, 101], 3, 0⟩,
  ⟨15, 75, [111, 114], 2, 1⟩,
  ⟨15, 76, [99, 115, 110, 103, 108], 2, 1⟩,
  ⟨15, 77, [99, 99, 110, 116, 49], 2, 1⟩,
  ⟨15, 78, [116, 97, 108, 116], 0, 0⟩,
  ⟨15, 79, [108, 100, 105, 102, 102], 3, 2⟩,
  ⟨15, 81, [116, 97, 108, 116, 119, 116], 0, 0⟩,
  ⟨15, 82, [115, 117, 109], 2, 1⟩,
  ⟨15, 83, [109, 117, 108], 2, 1⟩,
  ⟨15, 84, [115, 116, 116, 105, 109, 101, 114], 1, 0⟩,
  ⟨15, 85, [115, 116, 111, 112, 101, 114, 114], 0, 0⟩,
  ⟨15, 86, [99, 119, 111, 114, 100], 2, 1⟩,
  ⟨15, 87, [99, 108, 114, 104, 97, 108, 116, 101, 114, 114], 0, 0⟩,
  ⟨15, 88, [115, 101, 116, 104, 97, 108, 116, 101, 114, 114], 0, 0⟩,
  ⟨15, 89, [116, 101, 115, 116, 104, 97, 108, 116, 101, 114, 114], 0, 1⟩]
def irow0 : IRow := ⟨0, 0, [], 0, 0⟩
/-- The row of an instruction. -/
def findI (fn arg : Int) : Option IRow := if fn = 15 then tabO.find? fun r => (r.arg : Int) == arg else tabF.find? fun r => (r.fn : Int) == fn
/-- The row of a mnemonic. -/
def namedI (n : List UInt8) : Option IRow := (tabF ++ tabO).find? fun r => r.name == n
/-- An instruction's text. -/
def textI (fn arg : Int) : List UInt8 × Int :=
  match findI fn arg with
  | none => ([], 2)
  | some r => (if fn = 15 then r.name else r.name ++ 32 :: textL arg false, 0)
/-- What is read: function, operand, error. -/
noncomputable def readI (l : List UInt8) : Int × Int × Int :=
  match namedI (l.takeWhile (· != 32)) with
  | none => (0, 0, 50)
  | some r =>
    match l.dropWhile (· != 32) with
    | [] => if r.fn = 15 then (r.fn, r.arg, 0) else (0, 0, 5)
    | _ :: o => if r.fn = 15 then (0, 0, 5) else if (readF o).2 = 0 then (r.fn, (readF o).1, 0) else (0, 0, 5)
theorem tabO_len : tabO.length = 74 := rfl
theorem fns_nodup : (tabF.map (·.fn)).Nodup := by decide
theorem tabF_ok : ∀ r ∈ tabF, r.fn < 15 ∧ r.arg = 0 ∧ r.name ≠ [] ∧ (∀ c ∈ r.name, c ≠ 32) ∧ r.name.length ≤ 12 ∧ r.takes ≤ 3 ∧ r.leaves ≤ 3 ∧ r.leaves ≤ r.takes + 1 := by decide +kernel
theorem tabO_ok : ∀ r ∈ tabO, r.fn = 15 ∧ r.arg < 256 ∧ r.name ≠ [] ∧ (∀ c ∈ r.name, c ≠ 32) ∧ r.name.length ≤ 12 ∧ r.takes ≤ 3 ∧ r.leaves ≤ 3 ∧ r.leaves ≤ r.takes + 1 := by decide +kernel
theorem find_nodup {α β : Type} [BEq β] [LawfulBEq β] (f : α → β) : ∀ (l : List α), (l.map f).Nodup → ∀ x ∈ l, l.find? (fun y => f y == f x) = some x
  | [], _, x, h => by cases h
  | y :: l, hn, x, h => by
    rw [List.map_cons, List.nodup_cons] at hn
    rw [List.find?_cons]
    by_cases he : f y = f x
    · rcases List.mem_cons.1 h with rfl | h2
      · simp
      · exact absurd (he ▸ List.mem_map_of_mem h2) hn.1
    · have hne : (f y == f x) = false := by simpa using he
      rw [hne]
      rcases List.mem_cons.1 h with rfl | h2
      · exact absurd rfl he
      · exact find_nodup f l hn.2 x h2
theorem findI_some {fn arg : Int} {r : IRow} (h : findI fn arg = some r) : r ∈ tabF ++ tabO ∧ ((fn = 15 ∧ r.fn = 15 ∧ (r.arg : Int) = arg) ∨ (fn ≠ 15 ∧ (r.fn : Int) = fn ∧ r.arg = 0)) := by
  unfold findI at h
  split at h
  · rename_i hf
    have hm := List.mem_of_find?_eq_some h
    have hp := List.find?_some h
    simp only [beq_iff_eq] at hp
    exact ⟨List.mem_append_right _ hm, .inl ⟨hf, (tabO_ok r hm).1, hp⟩⟩
  · rename_i hf
    have hm := List.mem_of_find?_eq_some h
    have hp := List.find?_some h
    simp only [beq_iff_eq] at hp
    exact ⟨List.mem_append_left _ hm, .inr ⟨hf, hp, (tabF_ok r hm).2.1⟩⟩
end Go.Proofs.YtbefmlioampgcaaGreatDoor

/- The plain laws of chapter 05: wrong texts, other forms, mnemonics. -/
namespace Go.Proofs.YtbefmlioampgcaaGreatDoor
open Go.RowKit
set_option linter.unusedVariables false
set_option linter.unusedSimpArgs false

/-- Upper case. -/
def upB (c : UInt8) : UInt8 := if 97 ≤ c.toNat ∧ c.toNat ≤ 122 then c - 32 else c
end Go.Proofs.YtbefmlioampgcaaGreatDoor

/- The encoding of instructions, and the least lengths of lines, in plain words. -/
namespace Go.Proofs.YtbefmlioampgcaaGreatDoor

/-- A function with an operand that is no negative number. -/
def encF : Nat → Nat → Nat → List UInt8
  | 0, fn, m => [UInt8.ofNat (16 * fn + m % 16)]
  | k + 1, fn, m => if 16 ≤ m then encF k 2 (m / 16) ++ [UInt8.ofNat (16 * fn + m % 16)] else [UInt8.ofNat (16 * fn + m % 16)]
/-- An instruction's bytes. -/
def encI (fn : Nat) (v : Int) : List UInt8 :=
  if v < 0 then encF 8 6 ((-1 - v) / 16).toNat ++ [UInt8.ofNat (16 * fn + (v % 16).toNat)] else encF 8 fn v.toNat
def nib : Nat → Nat → Nat
  | 0, _ => 1
  | k + 1, m => if 16 ≤ m then nib k (m / 16) + 1 else 1
/-- How many bytes an operand takes. -/
def lenV (v : Int) : Nat := if v < 0 then nib 8 ((-1 - v) / 16).toNat + 1 else nib 8 v.toNat
/-- The sum of the first k lengths. -/
def adr (l : List Nat) : Nat → Nat
  | 0 => 0
  | k + 1 => adr l k + l.getD k 0
/-- One list of lengths lies below another one. -/
def LE (l m : List Nat) : Prop := l.length = m.length ∧ ∀ i, l.getD i 0 ≤ m.getD i 0
theorem LE.refl (l : List Nat) : LE l l := ⟨rfl, fun _ => Nat.le_refl _⟩
theorem LE.trans {l m n : List Nat} (h : LE l m) (k : LE m n) : LE l n := ⟨h.1.trans k.1, fun i => Nat.le_trans (h.2 i) (k.2 i)⟩
/-- What a line's operand is: a number, or the difference of two lines' addresses. -/
abbrev Opd := Sum Int (Nat × Nat)
def valO (l : List Nat) : Opd → Int
  | .inl v => v
  | .inr (t, f) => (adr l t : Int) - adr l f
/-- How many bytes the lines need, with lengths. -/
def needL (os : List Opd) (l : List Nat) : List Nat := os.map fun o => lenV (valO l o)
/-- Operands that stay words, whatever the lengths up to eight. -/
def Fit (os : List Opd) : Prop := os.length ≤ 4096 ∧ ∀ o ∈ os, match o with | .inl v => -2147483648 ≤ v ∧ v ≤ 2147483647 | .inr (t, f) => t ≤ os.length ∧ f ≤ os.length
/-- The lengths by rounds, from one byte each. -/
def runL (os : List Opd) : Nat → List Nat → List Nat
  | 0, l => l
  | k + 1, l => if needL os l = l then l else runL os k (needL os l)
def ones (n : Nat) : List Nat := List.replicate n 1
/-- The least lengths. -/
def fixL (os : List Opd) : List Nat := runL os (7 * os.length + 1) (ones os.length)
end Go.Proofs.YtbefmlioampgcaaGreatDoor

/- Lines of assembly in plain words: which are valid, their text, and how it is read. -/
namespace Go.Proofs.YtbefmlioampgcaaGreatDoor
open Go.RowKit
set_option linter.unusedVariables false
set_option linter.unusedSimpArgs false

structure LineL where
  label : List UInt8
  fn : Nat
  arg : Int
  target : List UInt8
  frm : List UInt8
deriving DecidableEq
def letterB (c : UInt8) : Bool := (decide (97 ≤ c.toNat) && decide (c.toNat ≤ 122)) || (decide (65 ≤ c.toNat) && decide (c.toNat ≤ 90))
def otherB (c : UInt8) : Bool := (decide (48 ≤ c.toNat) && decide (c.toNat ≤ 57)) || c.toNat == 46
/-- A label's form. -/
def labelB (l : List UInt8) : Bool := match l with
  | [] => false
  | c :: r => letterB c && r.all (fun c => letterB c || otherB c) && decide ((c :: r).length ≤ 32)
def validB (x : LineL) : Bool :=
  (x.label.isEmpty || labelB x.label) &&
    (if x.target.isEmpty then x.frm.isEmpty && (findI (x.fn : Int) x.arg).isSome
     else labelB x.target && (x.frm.isEmpty || labelB x.frm) && x.arg == 0 && decide (x.fn < 15) && !(x.fn == 2) && !(x.fn == 6))
/-- The line with a label. -/
def atL (ls : List LineL) (n : List UInt8) : Option Nat := ls.findIdx? fun x => x.label == n
def okL (ls : List LineL) (i : Nat) (x : LineL) : Bool :=
  (x.label.isEmpty || atL ls x.label == some i) && (x.target.isEmpty || (atL ls x.target).isSome) && (x.frm.isEmpty || (atL ls x.frm).isSome)
/-- The error of lines: 0, 2 or 60. -/
def checkE (ls : List LineL) : Int := if ls.all validB then (if (ls.zipIdx.all fun p => okL ls p.2 p.1) then 0 else 60) else 2
/-- A line's operand. -/
def opdL (ls : List LineL) (i : Nat) (x : LineL) : Opd :=
  if x.target.isEmpty then .inl x.arg else .inr ((atL ls x.target).getD 0, if x.frm.isEmpty then i + 1 else (atL ls x.frm).getD 0)
def opds (ls : List LineL) : List Opd := ls.zipIdx.map fun p => opdL ls p.2 p.1
theorem atL_lt {ls : List LineL} {n : List UInt8} {j : Nat} (h : atL ls n = some j) : j < ls.length := by
  unfold atL at h
  obtain ⟨hj, -⟩ := List.findIdx?_eq_some_iff_getElem.1 h
  exact hj
/-- The code of lines. -/
def codeL (ls : List LineL) : List UInt8 := ls.zipIdx.flatMap fun p => encI p.1.fn (valO (fixL (opds ls)) (opdL ls p.2 p.1))
/-- A line's text, without its end. -/
def tailT (x : LineL) : List UInt8 :=
  if x.fn = 15 then [] else if x.target.isEmpty then 32 :: textL x.arg false else if x.frm.isEmpty then 32 :: x.target else 32 :: (x.target ++ 45 :: x.frm)
def nameT (x : LineL) : List UInt8 := ((findI (x.fn : Int) x.arg).getD irow0).name
def oneT (x : LineL) : List UInt8 := (if x.label.isEmpty then [] else x.label ++ [58, 32]) ++ (nameT x ++ tailT x)
/-- The text of lines. -/
def textT (ls : List LineL) : List UInt8 := ls.flatMap fun x => oneT x ++ [10]
/-- Behind a line's label: the line that a text might be. -/
def parseA (lab t : List UInt8) : LineL :=
  let y := (namedI (t.takeWhile (· != 32))).getD irow0
  match t.dropWhile (· != 32) with
  | [] => ⟨lab, y.fn, y.arg, [], []⟩
  | _ :: o => match Lib.parseIntB 32 o with
    | .ok v => ⟨lab, y.fn, v, [], []⟩
    | _ => ⟨lab, y.fn, y.arg, o.takeWhile (· != 45), (o.dropWhile (· != 45)).tail⟩
/-- The line that a text might be, as the program reads it. -/
def parseP (l : List UInt8) : LineL := if (Lib.cut l [58, 32]).2.2 then parseA (Lib.cut l [58, 32]).1 (Lib.cut l [58, 32]).2.1 else parseA [] l
def numR (l : List UInt8) : Int :=
  let n := (l.take 11).foldl (fun (n : Nat) (c : UInt8) => if 48 ≤ c.toNat ∧ c.toNat ≤ 57 then 10 * n + (c.toNat - 48) else n) 0
  wrap32 (if l.head? = some 45 then -(n : Int) else (n : Int))
def parseB (lab t : List UInt8) : LineL :=
  let y := (namedI (t.takeWhile (· != 32))).getD irow0
  match t.dropWhile (· != 32) with
  | [] => ⟨lab, y.fn, y.arg, [], []⟩
  | _ :: o => if (match o with | [] => false | c :: _ => c == 45 || (decide (48 ≤ c.toNat) && decide (c.toNat ≤ 57))) then ⟨lab, y.fn, numR o, [], []⟩
    else ⟨lab, y.fn, y.arg, o.takeWhile (· != 45), (o.dropWhile (· != 45)).tail⟩
/-- The line that a text might be, as the reference reads it. -/
def parseR (l : List UInt8) : LineL :=
  if (l.takeWhile (· != 58)).length + 1 < l.length then parseB (l.takeWhile (· != 58)) (l.drop ((l.takeWhile (· != 58)).length + 2)) else parseB [] l
end Go.Proofs.YtbefmlioampgcaaGreatDoor

/- The code of expressions, and what lines do, in plain words. -/
namespace Go.Proofs.YtbefmlioampgcaaGreatDoor
open Go.RowKit
set_option linter.unusedVariables false
set_option linter.unusedSimpArgs false

def lnF (f : Nat) (a : Int) : LineL := ⟨[], f, a, [], []⟩
def lnO (o : Int) : LineL := lnF 15 o
def lnJ (t : List UInt8) : LineL := ⟨[], 10, 0, t, []⟩
def stopT : List UInt8 := [115, 116, 111, 112]
/-- An operator with one part that never needs a second register. -/
def easyE (k o tk : Nat) : Bool := (k == 4 && (o == 25 || o == 26)) || (k == 6 && tk == 1)
mutual
/-- How many registers an expression needs. -/
def regsE : KE → Nat
  | ⟨k, o, tk, _, _, _, _, l⟩ => match l with
    | [] => 1
    | [a] => if easyE k o tk then regsE a else max (regsE a) 2
    | a :: b :: _ => if o ≠ 20 ∧ o ≠ 21 ∧ regsE a = regsE b then min (regsE a + 1) 3 else max (regsE a) (regsE b)
end
mutual
/-- How many temporaries. -/
def tempsE : KE → Nat
  | ⟨_, o, _, _, _, _, _, l⟩ => match l with
    | [] => 0
    | [a] => tempsE a
    | a :: b :: _ => if o ≠ 20 ∧ o ≠ 21 ∧ regsE a = 3 ∧ regsE b = 3 then max (tempsE b) (tempsE a + 1) else max (tempsE a) (tempsE b)
end
mutual
/-- Can it have no fault? -/
def safeE : KE → Bool
  | ⟨k, o, tk, _, _, _, _, l⟩ => match l with
    | [] => true
    | [a] => safeE a && (easyE k o tk || (k == 4 && o != 23))
    | a :: b :: _ => safeE a && safeE b && decide (6 ≤ o)
end
/-- The operation of an operator that is one. -/
def singleO (o : Nat) : Int := ([0, 5, 12, 83, 44, 31, 82, 4, 8, 70, 75, 51, 65, 64] : List Int).getD o 0
def operL (o : Nat) : List LineL :=
  if o = 15 then [lnO 4, lnF 12 0, lnF 12 0]
  else if o = 14 then [lnO 4, lnF 12 0]
  else if o = 22 then [lnO 4, lnF 4 0, lnO 9]
  else if o = 16 then [lnO 0, lnO 9]
  else if o = 17 then [lnO 9]
  else if o = 19 then [lnO 0, lnO 9, lnF 12 0]
  else if o = 18 then [lnO 9, lnF 12 0]
  else [lnO (singleO o)]
/-- Where an expression is compiled: how many elements a variable has, its offset, the label. -/
structure CEnv where
  dim : Int → Int
  off : Int → Int
  label : List UInt8
/-- What follows the code of the only part. -/
def afterL (env : CEnv) (k o tk : Nat) (v : Int) : List LineL :=
  if k = 3 then [lnF 4 (env.dim v), lnO 19, lnO 41, lnJ stopT, lnF 1 (env.off v), lnO 10, lnF 3 0]
  else if o = 23 then [lnF 4 0, lnO 0, lnO 12]
  else if o = 24 then [lnF 4 0, lnO 0, lnO 4]
  else if o = 25 then [lnO 50]
  else if o = 26 then [lnF 12 0]
  else if tk = 2 then [lnF 4 256, lnO 19]
  else if tk = 3 then [lnF 4 2, lnO 19]
  else []
def freshL (env : CEnv) (n : Nat) : List UInt8 := env.label ++ [46] ++ Lib.decDigits n
mutual
/-- The code of an expression with the first temporary t, behind n labels; and how many labels there are then. -/
def codeE (env : CEnv) : KE → Int → Nat → List LineL × Nat
  | ⟨k, o, tk, num, v, _, _, l⟩, t, n => match l with
    | [] => if k = 1 then ([lnF 4 num], n) else ([lnF 7 (env.off v)], n)
    | [a] => ((codeE env a t n).1 ++ afterL env k o tk v, (codeE env a t n).2)
    | a :: b :: _ =>
      if o = 20 ∨ o = 21 then
        let x := codeE env a t n
        let y := codeE env b t (x.2 + 1)
        if o = 21 then (x.1 ++ ([lnF 12 0] ++ ([lnJ (freshL env (x.2 + 1))] ++ (y.1 ++ [lnF 12 0, ⟨freshL env (x.2 + 1), 12, 0, [], []⟩]))), y.2)
        else (x.1 ++ ([lnJ (freshL env (x.2 + 1))] ++ (y.1 ++ [⟨freshL env (x.2 + 1), 8, 0, [], []⟩])), y.2)
      else if regsE a = 3 ∧ regsE b = 3 then
        let x := codeE env b t n
        let y := codeE env a (t + 1) x.2
        (x.1 ++ ([lnF 13 t] ++ (y.1 ++ ([lnF 7 t] ++ operL o))), y.2)
      else if regsE a < regsE b then
        let x := codeE env b t n
        let y := codeE env a t x.2
        (x.1 ++ (y.1 ++ ([lnO 0] ++ operL o)), y.2)
      else
        let x := codeE env a t n
        let y := codeE env b t x.2
        (x.1 ++ (y.1 ++ operL o), y.2)
end
end Go.Proofs.YtbefmlioampgcaaGreatDoor

/- What lines of expressions' code do, in plain words: registers, a step, a run, and which lines are refused. -/
namespace Go.Proofs.YtbefmlioampgcaaGreatDoor
open Go.RowKit
set_option linter.unusedVariables false
set_option linter.unusedSimpArgs false

/-- The three registers and the error flag. -/
structure RegL where
  a : Int
  b : Int
  c : Int
  e : Bool
def RegL.Ok (r : RegL) : Prop := is32 r.a ∧ is32 r.b ∧ is32 r.c
def RegL.push (r : RegL) (v : Int) : RegL := ⟨v, r.a, r.b, r.e⟩
def RegL.pop (r : RegL) : RegL := ⟨r.b, r.c, r.c, r.e⟩
def RegL.join (r : RegL) (p : Int × Bool) : RegL := ⟨p.1, r.c, r.c, r.e || p.2⟩
def truthL (b : Bool) : Int := if b then 1 else 0
/-- An operation that takes two words, x below y: its word, and whether it is over; none: no such operation. -/
def binO (op x y : Int) : Option (Int × Bool) :=
  if op = 5 then some (wrap32 (x + y), wrap32 (x + y) != x + y)
  else if op = 12 then some (wrap32 (x - y), wrap32 (x - y) != x - y)
  else if op = 83 then some (wrap32 (x * y), wrap32 (x * y) != x * y)
  else if op = 44 then some (if y = 0 ∨ (x = -2147483648 ∧ y = -1) then (0, true) else (x.tdiv y, false))
  else if op = 31 then some (if y = 0 then (0, true) else (x.tmod y, false))
  else if op = 82 then some (wrap32 (x + y), false)
  else if op = 4 then some (wrap32 (x - y), false)
  else if op = 8 then some (wrap32 (x * y), false)
  else if op = 70 then some (bits .and .i32 x y, false)
  else if op = 75 then some (bits .or .i32 x y, false)
  else if op = 51 then some (bits .xor .i32 x y, false)
  else if op = 65 then some (shlF x y, false)
  else if op = 64 then some (shrF x y, false)
  else if op = 9 then some (truthL (decide (y < x)), false)
  else if op = 19 then some (x, decide (u32 y ≤ u32 x))
  else if op = 10 then some (wrap32 (y + wrap32 (4 * x)), false)
  else none
/-- An operation. -/
def opR (r : RegL) (op : Int) : Option RegL :=
  if op = 0 then some ⟨r.b, r.a, r.c, r.e⟩
  else if op = 50 then some ⟨-1 - r.a, r.b, r.c, r.e⟩
  else if op = 41 then some ⟨truthL (!r.e), r.a, r.b, false⟩
  else (binO op r.b r.a).map r.join
/-- What a line does. -/
inductive OutL where
  | go (r : RegL) (m : List Int)
  | jump (t : List UInt8)
  | halt (v : Int × Bool × Int)
/-- Which word a line with an access means. -/
def wordK (x : LineL) (r : RegL) : Int := if x.fn = 3 then wrap32 (r.a + wrap32 (4 * x.arg)) / 4 else x.arg
def plainO (x : LineL) (r : RegL) : RegL :=
  if x.fn = 4 then r.push x.arg
  else if x.fn = 1 then r.push (wrap32 (4 * x.arg))
  else if x.fn = 8 then ⟨wrap32 (r.a + x.arg), r.b, r.c, r.e || (wrap32 (r.a + x.arg) != r.a + x.arg)⟩
  else if x.fn = 12 then ⟨truthL (r.a == x.arg), r.b, r.c, r.e⟩
  else (opR r x.arg).getD r
def accessB (x : LineL) : Bool := x.fn == 7 || x.fn == 13 || x.fn == 3
def moveO (x : LineL) (r : RegL) (m : List Int) : Option (RegL × List Int) :=
  if wordK x r < 0 ∨ (m.length : Int) ≤ wordK x r then none
  else if x.fn = 7 then some (r.push (m.getD (wordK x r).toNat 0), m)
  else if x.fn = 3 then some (⟨m.getD (wordK x r).toNat 0, r.b, r.c, r.e⟩, m)
  else some (r.pop, m.set (wordK x r).toNat r.a)
def stepO (x : LineL) (r : RegL) (m : List Int) : OutL :=
  if x.fn = 10 then if r.a ≠ 0 then .go r.pop m else if x.target = stopT then .halt (0, true, 0) else .jump x.target
  else if accessB x then match moveO x r m with
    | none => .halt (0, false, 4)
    | some (r', m') => .go r' m'
  else .go (plainO x r) m
/-- A run of the lines that are left; sk: up to the line with this label they are passed over. -/
def runS : List LineL → Option (List UInt8) → RegL → List Int → Int × Bool × Int
  | [], _, r, _ => if r.e then (0, true, 0) else (r.a, false, 0)
  | x :: l, sk, r, m => if sk.any (fun t => x.label != t) then runS l sk r m else match stepO x r m with
    | .go r' m' => runS l none r' m'
    | .jump t => runS l (some t) r m
    | .halt v => v
/-- The functions and operations that are run. -/
def knownB (op : Int) : Bool := (opR ⟨0, 0, 0, false⟩ op).isSome
def runsB (x : LineL) : Bool :=
  x.frm.isEmpty && (!x.target.isEmpty == (x.fn == 10)) && (x.target.isEmpty || x.arg == 0) &&
    (x.fn == 4 || x.fn == 8 || x.fn == 12 || x.fn == 1 || x.fn == 7 || x.fn == 13 || x.fn == 3 || x.fn == 10 || (x.fn == 15 && knownB x.arg))
/-- A line's labels are right: its own is its own alone, and its target's line comes later. -/
def okR (ls : List LineL) (i : Nat) (x : LineL) : Bool :=
  (x.label.isEmpty || atL ls x.label == some i) && (x.target.isEmpty || x.target == stopT || (match atL ls x.target with | some j => decide (i < j) | none => false))
/-- The error of lines: 0, 2 or 60. -/
def faultE (ls : List LineL) : Int := if ls.all runsB then (if (ls.zipIdx.all fun p => okR ls p.2 p.1) then 0 else 60) else 2
/-- What a run answers. -/
def runQ (ls : List LineL) (ws : List Int) : Int × Bool × Int :=
  if 4096 < ls.length ∨ 65536 < ws.length then (0, false, 3)
  else if faultE ls ≠ 0 then (0, false, faultE ls)
  else runS ls none ⟨0, 0, 0, false⟩ ws
theorem known_of (r : RegL) (op : Int) : (opR r op).isSome = knownB op := by
  unfold knownB opR
  by_cases h0 : op = 0
  · simp [h0]
  by_cases h1 : op = 50
  · simp [h1]
  by_cases h2 : op = 41
  · simp [h2]
  simp only [if_neg h0, if_neg h1, if_neg h2, Option.isSome_map]
  unfold binO
  simp only [apply_ite Option.isSome, Option.isSome_some, Option.isSome_none]
theorem runS_skip : ∀ (l : List LineL) (j : Nat) (t : List UInt8) (r : RegL) (m : List Int) (y : LineL), l[j]? = some y → y.label = t → (∀ k x, k < j → l[k]? = some x → x.label ≠ t) → runS l (some t) r m = runS (l.drop j) none r m
  | [], j, t, r, m, y, h, _, _ => by simp at h
  | x :: l, 0, t, r, m, y, h, hy, _ => by
    simp at h
    subst h
    rw [List.drop_zero, runS, runS]
    simp [hy]
  | x :: l, j + 1, t, r, m, y, h, hy, hn => by
    rw [List.drop_succ_cons, runS]
    have h0 := hn 0 x (by omega) rfl
    simp [h0]
    exact runS_skip l j t r m y (by simpa using h) hy (fun k z hk hz => hn (k + 1) z (by omega) (by simpa using hz))
theorem truthL_is (b : Bool) : is32 (truthL b) := by cases b <;> simp [truthL, is32]
theorem is32_0 : is32 0 := by unfold is32; omega
theorem tdiv_is {x y : Int} (hx : is32 x) (hy : is32 y) (h : ¬ (y = 0 ∨ (x = -2147483648 ∧ y = -1))) : is32 (x.tdiv y) := by
  have hb := quoA_bounds x y hx
  have h1 : x.tdiv y = quoA x y := by rw [tdiv_abs]; rfl
  rw [h1]
  refine ⟨hb.2.1, ?_⟩
  rcases Int.lt_or_le 2147483647 (quoA x y) with hlt | hle
  · exfalso
    apply h
    have h3 : x.natAbs / y.natAbs ≤ x.natAbs := Nat.div_le_self _ _
    have h4 : 1 < y.natAbs → x.natAbs / y.natAbs ≤ x.natAbs / 2 := fun h => Nat.div_le_div_left h (by decide)
    unfold quoA at hlt
    unfold is32 at hx hy
    generalize x.natAbs / y.natAbs = q at *
    split at hlt
    · rename_i hs
      have hs' := propext_iff.1 hs
      omega
    · omega
  · exact hle
theorem tmod_is {x y : Int} (hx : is32 x) : is32 (x.tmod y) := by
  rw [tmod_abs]
  have := Nat.mod_le x.natAbs y.natAbs
  unfold is32 at *
  split <;> omega
end Go.Proofs.YtbefmlioampgcaaGreatDoor

/- The evaluation stack, walked in the program: push, pop, truth. -/
namespace Go.Proofs.YtbefmlioampgcaaGreatDoor
open Go.RowKit
set_option linter.unusedVariables false
set_option linter.unusedSimpArgs false

def RegL.cells (r : RegL) : Array Value := #[.int .i32 r.a, .int .i32 r.b, .int .i32 r.c, .bool r.e]
/-- The registers in block s are now r; nothing else that was there has turned. -/
def RetR (v : Value) (r : RegL) (s : Nat) (w : World) (e : Ending) (w' : World) : Prop := e = .returned v ∧ UpdB s w w' ∧ Blk w' s 79 r.cells
theorem wTruth (b : Bool) (w : World) : Calls Tryz.prog 47 #[.bool b] w (RetQ (.int .i32 (truthL b)) w) := by
  cases b
  all_goals
    go_enter Tryz.func47, Tryz.ntmps47
    go_wp2
    go_ret
    exact ⟨rfl, rfl⟩
theorem UpdB.drew {g : Nat} {w w' : World} (h : UpdB g w w') : UpdB g w w'.drew := ⟨h.os, h.tape, h.output, h.size, h.block⟩
theorem UpdB.set1 {g o : Nat} {u : Value} {w w' : World} (h : UpdB g w w') : UpdB g w (w'.setCell ⟨g, o, none⟩ u) := h.trans (UpdB.set _ _ _)
set_option maxRecDepth 100000 in
theorem wPush (r : RegL) (v : Int) (s : Nat) (w : World) (hs : Blk w s 79 r.cells) :
    Calls Tryz.prog 45 #[.pointer (some ⟨s, 0, none⟩), .int .i32 v] w (RetR (.tuple #[]) (r.push v) s w) := by
  have HS := Lib.hid hs
  simp only [RegL.cells] at hs
  have c0 := hs.cell 0
  have c1 := hs.cell 1
  have c2 := hs.cell 2
  have c3 := hs.cell 3
  simp at c0 c1 c2 c3
  have f0 := hs.frozen 0
  have f1 := hs.frozen 1
  have f2 := hs.frozen 2
  have f3 := hs.frozen 3
  have hlt := hs.lt
  clear hs
  go_enter Tryz.func45, Tryz.ntmps45
  go_region
  go_end0
  exact ⟨rfl, (((UpdB.refl s w).set1).set1).set1.drew, ((((HS.out.set_ 0 _).set_ 1 _).set_ 2 _).drew)⟩
set_option maxRecDepth 100000 in
theorem wPop (r : RegL) (s : Nat) (w : World) (hs : Blk w s 79 r.cells) :
    Calls Tryz.prog 24 #[.pointer (some ⟨s, 0, none⟩)] w (RetR (.tuple #[]) r.pop s w) := by
  have HS := Lib.hid hs
  simp only [RegL.cells] at hs
  have c0 := hs.cell 0
  have c1 := hs.cell 1
  have c2 := hs.cell 2
  have c3 := hs.cell 3
  simp at c0 c1 c2 c3
  have f0 := hs.frozen 0
  have f1 := hs.frozen 1
  have f2 := hs.frozen 2
  have f3 := hs.frozen 3
  have hlt := hs.lt
  clear hs
  go_enter Tryz.func24, Tryz.ntmps24
  go_region
  go_end0
  exact ⟨rfl, ((UpdB.refl s w).set1).set1.drew, (((HS.out.set_ 0 _).set_ 1 _).drew)⟩
end Go.Proofs.YtbefmlioampgcaaGreatDoor
