
/- Texts of words, walked. -/
import Derived.Test.YtaakhhnlmldegaaDoorW4
import Derived.Test.YtaakhhnlmldegaaDoorShelf
import Derived.Test.YtaakhhnlmldegaaDoorQT
import Derived.Lib.EndianBits
import Derived.Laws.BitsLemmas
import Derived.Laws.IdiomStrings
namespace Go.Proofs.YtaakhhnlmldegaaDoor
open Go.RowKit
set_option linter.unusedVariables false
set_option linter.unusedSimpArgs false


/-- A digit's sign. -/
def dig (d : Nat) : UInt8 := if d < 10 then UInt8.ofNat (48 + d) else UInt8.ofNat (55 + d)
/-- The last n digits of t in the base b. -/
def digL (b : Nat) : Nat → Nat → List UInt8
  | 0, _ => []
  | i + 1, t => dig (t / b ^ i % b) :: digL b i t
theorem digL_length (b i t : Nat) : (digL b i t).length = i := by
  induction i with
  | zero => rfl
  | succ i ih => simp [digL, ih]
def u8s (l : List UInt8) : List Value := l.map fun c => .int .u8 c.toNat


theorem u8s_set (k z : Nat) (hk : k < 8) :
    ((Value.int .u8 35 :: (List.replicate (8 - k) (Value.int .u8 0) ++ u8s (digL 16 k z))).toArray).setIfInBounds (8 - k) (.int .u8 (dig (z / 16 ^ k % 16)).toNat) =
      (Value.int .u8 35 :: (List.replicate (8 - (k + 1)) (Value.int .u8 0) ++ u8s (digL 16 (k + 1) z))).toArray := by
  have e : 8 - k = (8 - (k + 1)) + 1 := by omega
  rw [List.setIfInBounds_toArray, e, List.set_cons_succ]
  congr 2
  generalize 8 - (k + 1) = n
  have : List.replicate (n + 1) (Value.int .u8 0) = List.replicate n (Value.int .u8 0) ++ [Value.int .u8 0] := List.replicate_succ'
  rw [this, List.append_assoc, List.set_append_right _ _ (by simp)]
  simp [u8s, digL]

theorem u8s_get (k z : Nat) (hk : k < 8) : ((Value.int .u8 35 :: (List.replicate (8 - k) (Value.int .u8 0) ++ u8s (digL 16 k z))).toArray)[8 - k]? = some (.int .u8 0) := by
  have e : 8 - k = (8 - (k + 1)) + 1 := by omega
  rw [List.getElem?_toArray, e, List.getElem?_cons_succ, List.getElem?_append_left (by simp), List.getElem?_replicate, if_pos (by omega)]
theorem mask_u32 (i : Nat) (hi : i ≤ 32) (x : Int) (h0 : 0 ≤ x) (h1 : x < 4294967296) : bits .and .u32 x (2 ^ i - 1) = x % 2 ^ i :=
  bits_mask .u32 32 (by decide) (fun n a b => by rw [IntKind.wrap_u32]; omega) i hi x h0 (by omega)
theorem and15 (z k : Nat) (hz : z < 4294967296) : bits .and .u32 ((z : Int) / 2 ^ (4 * k)) 15 = ((z / 16 ^ k % 16 : Nat) : Int) := by
  have e : (z : Int) / 2 ^ (4 * k) = ((z / 16 ^ k : Nat) : Int) := by
    rw [Int.pow_mul]; simp
  have hle := Nat.div_le_self z (16 ^ k)
  rw [e]
  generalize z / 16 ^ k = x at hle ⊢
  have h := mask_u32 4 (by decide) (x : Int) (by omega) (by omega)
  simpa using h

theorem dig_at (d : Nat) (h : d < 16) : (({ data := #[48, 49, 50, 51, 52, 53, 54, 55, 56, 57, 65, 66, 67, 68, 69, 70] } : ByteArray)[d]'(by simpa [ByteArray.size] using h)) = dig d := by
  revert d; decide

theorem wTextH (v : Int) (w : World) (hv : is32 v) : Calls Tryd.prog 13 #[.int .i32 v, .bool true] w (RetV (.string ⟨(35 :: digL 16 8 (u32 v).toNat).toArray⟩) w) := by
  obtain ⟨z, hz⟩ : ∃ z : Nat, v % 4294967296 = z := ⟨(v % 4294967296).toNat, by omega⟩
  have hz' : (u32 v).toNat = z := by unfold u32; omega
  rw [hz']
  have zlt : z < 4294967296 := by omega
  go_enter Tryd.func13, Tryd.ntmps13
  go_wp2
  obtain ⟨wr, hw⟩ : ∃ wr, wr = w.alloc (Obj.cells #[.int .u8 35, .int .u8 0, .int .u8 0, .int .u8 0, .int .u8 0, .int .u8 0, .int .u8 0, .int .u8 0, .int .u8 0] 67) := ⟨_, rfl⟩
  rw [← hw]
  have b0 : Below w.heap.size w wr := hw ▸ (Below.refl _ _).alloc (Nat.le_refl _) _
  have k0 : Blk wr w.heap.size 67 #[.int .u8 35, .int .u8 0, .int .u8 0, .int .u8 0, .int .u8 0, .int .u8 0, .int .u8 0, .int .u8 0, .int .u8 0] := hw ▸ Blk.new w _ _
  clear hw
  go_loopw [13] (fun i wr => ∃ k : Nat, k ≤ 8 ∧ i = .int .i64 k ∧ Below w.heap.size w wr ∧
      Blk wr w.heap.size 67 (Value.int .u8 35 :: (List.replicate (8 - k) (Value.int .u8 0) ++ u8s (digL 16 k z))).toArray) (fun i _ => 8 - (intOf i).toNat)
  case atStart => exact ⟨0, Nat.zero_le _, rfl, b0, k0⟩
  case round =>
    obtain ⟨k, hk, rfl, hb, hB⟩ := hrel
    clear b0 k0
    by_cases hlt : k < 8
    · have hki : (k : Int) < 8 := by omega
      have hand := and15 z k zlt
      obtain ⟨d, hd⟩ : ∃ d, z / 16 ^ k % 16 = d := ⟨_, rfl⟩
      have hset := u8s_set k z hlt
      rw [hd] at hand hset
      have d16 : d < 16 := by omega
      have d16I : (d : Int) < 16 := by omega
      have hdig := Lib.hid (dig_at d d16)
      have hf := hB.frozen (8 - k)
      have hc := hB.cell (8 - k)
      have Hset := Lib.hid hset
      clear hset
      rw [u8s_get k z hlt] at hc
      have e2 : ({ data := #[48, 49, 50, 51, 52, 53, 54, 55, 56, 57, 65, 66, 67, 68, 69, 70] } : ByteArray)[d] = dig d := hdig.out
      go_wp2
      go_roundw
      case rel => exact ⟨k + 1, by omega, by go_num, hb.setCell (by simp) _, by rw [← Hset.out]; exact hB.set_ _ _⟩
      case measure => simp [intOf]; omega
    · obtain rfl : k = 8 := by omega
      have hcv := run_convert_bytes_back (P := Tryd.prog) wr 53 9 5 ⟨w.heap.size, 0, none⟩ 9 (35 :: digL 16 8 z) Tryd.underlying53 Tryd.underlying5 Tryd.underlying9 (fun j hj => by
        rw [Addr.add_lit, hB.cell]
        simp only [Nat.zero_add, List.getElem?_toArray]
        have e : (Value.int .u8 35 :: (List.replicate (8 - 8) (Value.int .u8 0) ++ u8s (digL 16 8 z))) = u8s (35 :: digL 16 8 z) := rfl
        rw [e]; simp only [u8s, List.getElem?_map, List.getElem?_eq_getElem hj, Option.map_some])
      have hl : (35 :: digL 16 8 z).length = 9 := by simp [digL_length]
      rw [hl] at hcv
      go_wp2
      go_ret
      exact ⟨rfl, hb⟩

/-- The library's globals that strconv reads, as laid; and so whatever is done from the block B on. -/
def Laid (B : Nat) (w : World) : Prop := ∃ tp p tq q, ∀ w', Below B w w' →
  w'.var? Tryd.prog "strconv.ErrSyntax" = some #[.iface tp p] ∧ w'.var? Tryd.prog "strconv.ErrRange" = some #[.iface tq q] ∧ Lib.TabIs Tryd.prog w' "internal/strconv.uint64pow10" .u64 Lib.pow10Tab
theorem Laid.on {B : Nat} {w w1 : World} (h : Laid B w) (hb : Below B w w1) : Laid B w1 := by
  obtain ⟨tp, p, tq, q, h⟩ := h
  exact ⟨tp, p, tq, q, fun w' h' => h w' (hb.trans h')⟩
theorem Laid.call {B : Nat} {w w1 : World} (h : Laid B w) (hb : Below w.heap.size w w1) (hB : B ≤ w.heap.size) : Laid B w1 := h.on ⟨hb.os, hb.tape, hb.output, hb.size, fun i hi => hb.block i (by omega)⟩
theorem Laid.tab {B : Nat} {w : World} (h : Laid B w) : Lib.TabIs Tryd.prog w "internal/strconv.uint64pow10" .u64 Lib.pow10Tab := by
  obtain ⟨tp, p, tq, q, h⟩ := h
  exact (h w (Below.refl _ _)).2.2
theorem below_gr (w : World) (k : Nat) (os : Array Obj) : Below w.heap.size w (Sort.grow (w.drewN k) os) :=
  ⟨rfl, rfl, rfl, by simp [Sort.grow], fun i hi => by
    show ((w.drewN k).heap ++ os)[i]? = _
    rw [Array.getElem?_append_left (by show i < w.heap.size; omega)]
    rfl⟩
theorem itoa_any (B : Nat) (v : Int) (w : World) (hv : is32 v) (hL : Laid B w) : Calls Tryd.prog 29 #[.int .i64 v] w (RetV (.string ⟨(Lib.itoa v).toArray⟩) w) := by
  refine (Any.strconv_Itoa Tryd.laysM171 v (by have := hv.1; omega) (by have := hv.2; omega) w hL.tab).mono ?_
  rintro e w' ⟨rfl, k, os, rfl⟩
  exact ⟨rfl, below_gr _ _ _⟩


theorem wTextD (B : Nat) (v : Int) (w : World) (hv : is32 v) (hL : Laid B w) : Calls Tryd.prog 13 #[.int .i32 v, .bool false] w (RetV (.string ⟨(Lib.itoa v).toArray⟩) w) := by
  have hI := Lib.hid (itoa_any B v w hv hL)
  obtain ⟨v0, v1⟩ := hv
  go_enter Tryd.func13, Tryd.ntmps13
  go_wp2_with (go_at_call 29; refine hI.out.mono ?_; rintro e w' ⟨rfl, hb⟩)
  go_ret
  exact ⟨rfl, hb⟩
end Go.Proofs.YtaakhhnlmldegaaDoor
