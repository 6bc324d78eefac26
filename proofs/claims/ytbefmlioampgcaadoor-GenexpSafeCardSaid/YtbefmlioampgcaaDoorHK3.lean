/- Texts that belong together, joined: what each one holds is told ahead of it. -/
import Derived.Test.YtbefmlioampgcaaDoorHK2
import Derived.Lib.EndianBits
import Derived.Laws.BitsLemmas
import Derived.Laws.IdiomStrings
import Derived.Lib.OthersKept
import Derived.Laws.RangeAny
import Derived.Lib.ParseIntBCases
import Derived.Lib.Hide
import Derived.Lib.IndexMore
import Derived.Lib.ParseIntB
import Derived.Test.YtbefmlioampgcaaDoorHK1
import Derived.BigRegion
set_option linter.unusedVariables false
set_option linter.unusedSimpArgs false
/- Texts of words, walked. -/
namespace Go.Proofs.YtbefmlioampgcaaDoor
open Go.RowKit
set_option linter.unusedVariables false
set_option linter.unusedSimpArgs false


/-- A digit's sign. -/
def dig (d : Nat) : UInt8 := if d < 10 then UInt8.ofNat (48 + d) else UInt8.ofNat (55 + d)
/-- The last n digits of t in the base b. -/
def digL (b : Nat) : Nat → Nat → List UInt8
  | 0, _ => []
  | i + 1, t => dig (t / b ^ i % b) :: digL b i t
theorem digL_length (b i t : Nat) : (digL b i t).length = i := by
  induction i with
  | zero => rfl
  | succ i ih => simp [digL, ih]
def u8s (l : List UInt8) : List Value := l.map fun c => .int .u8 c.toNat


theorem u8s_set (k z : Nat) (hk : k < 8) :
    ((Value.int .u8 35 :: (List.replicate (8 - k) (Value.int .u8 0) ++ u8s (digL 16 k z))).toArray).setIfInBounds (8 - k) (.int .u8 (dig (z / 16 ^ k % 16)).toNat) =
      (Value.int .u8 35 :: (List.replicate (8 - (k + 1)) (Value.int .u8 0) ++ u8s (digL 16 (k + 1) z))).toArray := by
  have e : 8 - k = (8 - (k + 1)) + 1 := by omega
  rw [List.setIfInBounds_toArray, e, List.set_cons_succ]
  congr 2
  generalize 8 - (k + 1) = n
  have : List.replicate (n + 1) (Value.int .u8 0) = List.replicate n (Value.int .u8 0) ++ [Value.int .u8 0] := List.replicate_succ'
  rw [this, List.append_assoc, List.set_append_right _ _ (by simp)]
  simp [u8s, digL]

theorem u8s_get (k z : Nat) (hk : k < 8) : ((Value.int .u8 35 :: (List.replicate (8 - k) (Value.int .u8 0) ++ u8s (digL 16 k z))).toArray)[8 - k]? = some (.int .u8 0) := by
  have e : 8 - k = (8 - (k + 1)) + 1 := by omega
  rw [List.getElem?_toArray, e, List.getElem?_cons_succ, List.getElem?_append_left (by simp), List.getElem?_replicate, if_pos (by omega)]
theorem mask_u32 (i : Nat) (hi : i ≤ 32) (x : Int) (h0 : 0 ≤ x) (h1 : x < 4294967296) : bits .and .u32 x (2 ^ i - 1) = x % 2 ^ i :=
  bits_mask .u32 32 (by decide) (fun n a b => by rw [IntKind.wrap_u32]; omega) i hi x h0 (by omega)
theorem and15 (z k : Nat) (hz : z < 4294967296) : bits .and .u32 ((z : Int) / 2 ^ (4 * k)) 15 = ((z / 16 ^ k % 16 : Nat) : Int) := by
  have e : (z : Int) / 2 ^ (4 * k) = ((z / 16 ^ k : Nat) : Int) := by
    rw [Int.pow_mul]; simp
  have hle := Nat.div_le_self z (16 ^ k)
  rw [e]
  generalize z / 16 ^ k = x at hle ⊢
  have h := mask_u32 4 (by decide) (x : Int) (by omega) (by omega)
  simpa using h

theorem dig_at (d : Nat) (h : d < 16) : (({ data := #[48, 49, 50, 51, 52, 53, 54, 55, 56, 57, 65, 66, 67, 68, 69, 70] } : ByteArray)[d]'(by simpa [ByteArray.size] using h)) = dig d := by
  revert d; decide

/-- The library's globals that strconv reads, as laid; and so whatever is done from the block B on. -/
def Laid (B : Nat) (w : World) : Prop := ∃ tp p tq q, ∀ w', Below B w w' →
  w'.var? Tryd.prog "strconv.ErrSyntax" = some #[.iface tp p] ∧ w'.var? Tryd.prog "strconv.ErrRange" = some #[.iface tq q] ∧ Lib.TabIs Tryd.prog w' "internal/strconv.uint64pow10" .u64 Lib.pow10Tab
theorem Laid.on {B : Nat} {w w1 : World} (h : Laid B w) (hb : Below B w w1) : Laid B w1 := by
  obtain ⟨tp, p, tq, q, h⟩ := h
  exact ⟨tp, p, tq, q, fun w' h' => h w' (hb.trans h')⟩
theorem Laid.call {B : Nat} {w w1 : World} (h : Laid B w) (hb : Below w.heap.size w w1) (hB : B ≤ w.heap.size) : Laid B w1 := h.on ⟨hb.os, hb.tape, hb.output, hb.size, fun i hi => hb.block i (by omega)⟩
theorem Laid.tab {B : Nat} {w : World} (h : Laid B w) : Lib.TabIs Tryd.prog w "internal/strconv.uint64pow10" .u64 Lib.pow10Tab := by
  obtain ⟨tp, p, tq, q, h⟩ := h
  exact (h w (Below.refl _ _)).2.2
theorem below_gr (w : World) (k : Nat) (os : Array Obj) : Below w.heap.size w (Sort.grow (w.drewN k) os) :=
  ⟨rfl, rfl, rfl, by simp [Sort.grow], fun i hi => by
    show ((w.drewN k).heap ++ os)[i]? = _
    rw [Array.getElem?_append_left (by show i < w.heap.size; omega)]
    rfl⟩
theorem itoa_any (B : Nat) (v : Int) (w : World) (hv : is32 v) (hL : Laid B w) : Calls Tryd.prog 109 #[.int .i64 v] w (RetV (.string ⟨(Lib.itoa v).toArray⟩) w) := by
  refine (Any.strconv_Itoa Tryd.laysM171 v (by have := hv.1; omega) (by have := hv.2; omega) w hL.tab).mono ?_
  rintro e w' ⟨rfl, k, os, rfl⟩
  exact ⟨rfl, below_gr _ _ _⟩


end Go.Proofs.YtbefmlioampgcaaDoor

/- hexadecimal, walked. -/
namespace Go.Proofs.YtbefmlioampgcaaDoor
open Go.RowKit
set_option linter.unusedVariables false
set_option linter.unusedSimpArgs false

def isHexB (c : UInt8) : Bool := decide (48 ≤ c.toNat) && decide (c.toNat ≤ 57) || decide (65 ≤ c.toNat) && decide (c.toNat ≤ 70)
def hv (c : UInt8) : Nat := if c.toNat ≤ 57 then c.toNat - 48 else c.toNat - 55
def valL (b : Nat) (l : List UInt8) : Nat := l.foldl (fun t c => b * t + hv c) 0
theorem valL_snoc (b : Nat) (l : List UInt8) (c : UInt8) : valL b (l ++ [c]) = b * valL b l + hv c := by simp [valL]

theorem take_snoc (s : ByteArray) (k : Nat) (h : k < s.size) : s.data.toList.take (k + 1) = s.data.toList.take k ++ [s[k]] := by
  rw [List.take_succ_eq_append_getElem (by simpa using h)]; rfl

theorem all_snoc (s : ByteArray) (k : Nat) (h : k < s.size) (ha : (s.data.toList.take k).all isHexB = true) (hc : isHexB s[k] = true) : (s.data.toList.take (k + 1)).all isHexB = true := by
  rw [take_snoc s k h]; simp [ha, hc]
theorem all_not (s : ByteArray) (k : Nat) (h : k < s.size) (hc : isHexB s[k] = false) : s.data.toList.all isHexB = false := by
  rw [List.all_eq_false]
  exact ⟨s[k], by simp [ByteArray.getElem_eq_getElem_data], by simp [hc]⟩
theorem or16 (v d : Int) (d0 : 0 ≤ d) (d1 : d < 16) : bits .or .u32 (v * 16 % 4294967296) d = v * 16 % 4294967296 + d :=
  bits_join .u32 32 (by decide) (fun n a b => by rw [IntKind.wrap_u32]; omega) 4 _ d (by omega) (by omega) (by omega) d0 (by omega) (by omega)
theorem val_next (s : ByteArray) (pos v : Nat) (hp : pos < s.size) (hV : valL 16 (s.data.toList.take pos) % 4294967296 = v) : v * 16 % 4294967296 + hv s[pos] < 4294967296 → valL 16 (s.data.toList.take (pos + 1)) % 4294967296 = v * 16 % 4294967296 + hv s[pos] := by
  intro h
  rw [take_snoc s pos hp, valL_snoc]
  omega
theorem iterPos_at {w : World} {k : Nat} {s : ByteArray} {p : Nat} (h : w.heap[k]? = some (.stringIter s p)) : w.iterPos k = p := by simp [World.iterPos, h]

def HexPost (s : ByteArray) (w : World) (e : Ending) (w' : World) : Prop :=
  (s.data.toList.all isHexB = true ∧ e = .returned (.tuple #[.int .u32 ((valL 16 s.data.toList % 4294967296 : Nat) : Int), .bool ((s.size : Int) == 8)]) ∨
    s.data.toList.all isHexB = false ∧ e = .returned (.tuple #[.int .u32 0, .bool false])) ∧ Below w.heap.size w w'

end Go.Proofs.YtbefmlioampgcaaDoor

/- digits and value of the reference, walked. -/
namespace Go.Proofs.YtbefmlioampgcaaDoor
open Go.RowKit
set_option linter.unusedVariables false
set_option linter.unusedSimpArgs false

def strB (l : List UInt8) : ByteArray := ⟨l.toArray⟩

theorem strB_cons (d : Nat) (h : d < 16) (l : List UInt8) :
    (({ data := #[48, 49, 50, 51, 52, 53, 54, 55, 56, 57, 65, 66, 67, 68, 69, 70] } : ByteArray).extract d (d + 1)) ++ strB l = strB (dig d :: l) := by
  have e : (({ data := #[48, 49, 50, 51, 52, 53, 54, 55, 56, 57, 65, 66, 67, 68, 69, 70] } : ByteArray).extract d (d + 1)) = strB [dig d] := by
    revert d; decide
  rw [e]
  apply ByteArray.ext
  rw [ByteArray.data_append]; simp [strB]

theorem pow_base (b k t : Nat) (hb : b = 10 ∨ b = 16) (ht : t < 4294967296) (h : 0 < t / b ^ k) : k < 40 := by
  have h1 : b ^ k ≤ t := by
    rcases Nat.lt_or_ge t (b ^ k) with h2 | h2
    · rw [Nat.div_eq_of_lt h2] at h; omega
    · exact h2
  have h2 : 2 ^ k ≤ b ^ k := Nat.pow_le_pow_left (by omega) k
  rcases Nat.lt_or_ge k 40 with h3 | h3
  · exact h3
  · have h4 : 2 ^ 40 ≤ 2 ^ k := Nat.pow_le_pow_right (by decide) h3
    omega

end Go.Proofs.YtbefmlioampgcaaDoor

/- value of the reference, walked. -/
namespace Go.Proofs.YtbefmlioampgcaaDoor
open Go.RowKit
set_option linter.unusedVariables false
set_option linter.unusedSimpArgs false

/-- Which digit c is; 16 if it is none. -/
def hit (c : UInt8) : Nat := if isHexB c then hv c else 16
theorem hit_dig (d : Nat) (h : d < 16) : hit (dig d) = d := by revert d; decide
theorem dig_hit (c : UInt8) (h : hit c < 16) : dig (hit c) = c := by
  unfold hit at h ⊢
  split at h
  · rename_i hc
    rw [if_pos hc]
    unfold isHexB at hc
    have e : c = UInt8.ofNat c.toNat := by simp
    unfold dig hv
    simp only [Bool.or_eq_true, Bool.and_eq_true, decide_eq_true_eq] at hc
    split
    · rename_i h1; split
      · rw [e]; congr 1; simp; omega
      · omega
    · rename_i h1; split
      · omega
      · rw [e]; congr 1; simp; omega
  · omega
def stepR (b : Nat) (c : UInt8) (t n : Nat) : Nat := if hit c < n then b * t + hit c else t
theorem stepR_hit (b : Nat) (c : UInt8) (t n : Nat) (hn : n < 16) (h : dig n = c) : stepR b c t n = t ∧ stepR b c t (n + 1) = b * t + n := by
  have : hit c = n := by rw [← h, hit_dig n hn]
  unfold stepR
  rw [this, if_neg (by omega), if_pos (by omega)]
  exact ⟨rfl, rfl⟩
theorem stepR_miss (b : Nat) (c : UInt8) (t n : Nat) (hn : n < 16) (h : ¬ dig n = c) : stepR b c t (n + 1) = stepR b c t n := by
  have : ¬ hit c = n := fun h' => h (by rw [← h']; exact dig_hit c (by omega))
  unfold stepR
  by_cases h2 : hit c < n
  · rw [if_pos h2, if_pos (by omega)]
  · rw [if_neg h2, if_neg (by omega)]
def valR (b : Nat) (l : List UInt8) : Nat := l.foldl (fun t c => stepR b c t b) 0
theorem valR_snoc (b : Nat) (l : List UInt8) (c : UInt8) : valR b (l ++ [c]) = stepR b c (valR b l) b := by simp [valR]
theorem stepR_le (b : Nat) (c : UInt8) (t n : Nat) (hb : b ≤ 16) (hn : n ≤ 16) : stepR b c t n ≤ 16 * t + 15 := by
  unfold stepR
  split
  · have := Nat.mul_le_mul_right t hb; omega
  · omega
theorem valR_le (b : Nat) (hb : b ≤ 16) (l : List UInt8) : ∀ t, l.foldl (fun t c => stepR b c t b) t + 1 ≤ 16 ^ l.length * (t + 1) := by
  induction l with
  | nil => simp
  | cons c l ih =>
    intro t
    rw [List.foldl_cons, List.length_cons, Nat.pow_succ]
    have h1 := ih (stepR b c t b)
    have h2 := stepR_le b c t b hb hb
    have h3 : 16 ^ l.length * (stepR b c t b + 1) ≤ 16 ^ l.length * (16 * (t + 1)) := Nat.mul_le_mul_left _ (by omega)
    rw [← Nat.mul_assoc] at h3
    omega
theorem valR_lt (b : Nat) (hb : b ≤ 16) (l : List UInt8) : valR b l < 16 ^ l.length := by
  have := valR_le b hb l 0
  unfold valR
  omega
theorem eq_toNat (c d : UInt8) : (((c.toNat : Nat) : Int) == ((d.toNat : Nat) : Int)) = decide (c = d) := by
  rw [Bool.eq_iff_iff, beq_iff_eq, decide_eq_true_iff, Int.ofNat_inj, UInt8.toNat_inj]

end Go.Proofs.YtbefmlioampgcaaDoor

/- The plain law of texts: Read and Text. -/
namespace Go.Proofs.YtbefmlioampgcaaDoor
open Go.RowKit
set_option linter.unusedVariables false
set_option linter.unusedSimpArgs false

theorem digL_snoc (b N t : Nat) : digL b (N + 1) t = digL b N (t / b) ++ [dig (t % b)] := by
  induction N with
  | zero => simp [digL]
  | succ N ih =>
    show dig (t / b ^ (N + 1) % b) :: digL b (N + 1) t = dig (t / b / b ^ N % b) :: digL b N (t / b) ++ [dig (t % b)]
    rw [ih, Nat.pow_succ, Nat.mul_comm, ← Nat.div_div_eq_div_mul]
    rfl
theorem dig_dec (d : Nat) (h : d < 10) : dig d = UInt8.ofNat (48 + d) := by rw [dig, if_pos h]

/-- The decimal digits, and how many they are. -/
theorem dec_N (u : Nat) : ∃ N, (N = 0 ∨ 10 ^ N ≤ u) ∧ u < 10 ^ (N + 1) ∧ Lib.decDigits u = digL 10 (N + 1) u := by
  induction u using Nat.strongRecOn with
  | _ u ih =>
    by_cases h : u < 10
    · refine ⟨0, .inl rfl, by simpa using h, ?_⟩
      rw [Lib.decDigits_one h]
      simp [digL, Nat.mod_eq_of_lt h, dig_dec u h]
    · obtain ⟨N, h1, h2, h3⟩ := ih (u / 10) (by omega)
      refine ⟨N + 1, .inr ?_, ?_, ?_⟩
      · rw [Nat.pow_succ]
        rcases h1 with rfl | h1
        · simp; omega
        · omega
      · rw [Nat.pow_succ]; omega
      · rw [Lib.decDigits, dif_neg h, h3, digL_snoc 10 (N + 1) u, dig_dec _ (Nat.mod_lt _ (by decide))]
theorem dec_unique {u N : Nat} (h1 : N = 0 ∨ 10 ^ N ≤ u) (h2 : u < 10 ^ (N + 1)) : Lib.decDigits u = digL 10 (N + 1) u := by
  obtain ⟨M, g1, g2, g3⟩ := dec_N u
  have : M = N := by
    rcases Nat.lt_trichotomy M N with h | h | h
    · rcases h1 with rfl | h1
      · omega
      · have : 10 ^ (M + 1) ≤ 10 ^ N := Nat.pow_le_pow_right (by decide) (by omega)
        omega
    · exact h
    · rcases g1 with rfl | g1
      · omega
      · have : 10 ^ (N + 1) ≤ 10 ^ M := Nat.pow_le_pow_right (by decide) (by omega)
        omega
  rw [g3, this]

theorem val_digL (b : Nat) (hb : 0 < b) (hb16 : b ≤ 16) (N t : Nat) : ∀ acc, (digL b N t).foldl (fun t c => stepR b c t b) acc = acc * b ^ N + t % b ^ N := by
  induction N with
  | zero => intro acc; simp [digL, Nat.mod_one]
  | succ N ih =>
    intro acc
    have hd := Nat.mod_lt (t / b ^ N) hb
    rw [digL, List.foldl_cons, ih, stepR, hit_dig _ (by omega), if_pos hd, Nat.pow_succ, Nat.mod_mul, Nat.add_mul]
    have e1 : acc * (b ^ N * b) = b * acc * b ^ N := by rw [Nat.mul_comm (b ^ N) b, ← Nat.mul_assoc, Nat.mul_comm acc b]
    have e2 : t / b ^ N % b * b ^ N = b ^ N * (t / b ^ N % b) := Nat.mul_comm _ _
    omega
theorem valR_digL (b : Nat) (hb : 0 < b) (hb16 : b ≤ 16) (N t : Nat) (h : t < b ^ N) : valR b (digL b N t) = t := by
  rw [valR, val_digL b hb hb16, Nat.zero_mul, Nat.zero_add, Nat.mod_eq_of_lt h]

theorem dig_range (d : Nat) (h : d < 10) : 48 ≤ (dig d).toNat ∧ (dig d).toNat ≤ 57 ∧ (dig d).toNat - 48 = d := by revert d; decide
theorem isHex_dig (d : Nat) (h : d < 16) : isHexB (dig d) = true := by revert d; decide

theorem parse_digL (M : Nat) (hM : M < 1844674407370955162) (N t : Nat) : ∀ acc, acc * 10 ^ N + t % 10 ^ N ≤ M → Lib.parseUintM M acc (digL 10 N t) = .ok (acc * 10 ^ N + t % 10 ^ N) := by
  induction N with
  | zero => intro acc _; simp [digL, Lib.parseUintM, Nat.mod_one]
  | succ N ih =>
    intro acc h
    have hd := Nat.mod_lt (t / 10 ^ N) (show 0 < 10 by decide)
    obtain ⟨d0, d1, d2⟩ := dig_range _ hd
    have e : (acc * 10 + t / 10 ^ N % 10) * 10 ^ N + t % 10 ^ N = acc * 10 ^ (N + 1) + t % 10 ^ (N + 1) := by
      rw [Nat.pow_succ, Nat.mod_mul, Nat.add_mul]
      have e1 : acc * (10 ^ N * 10) = acc * 10 * 10 ^ N := by rw [Nat.mul_comm (10 ^ N) 10, ← Nat.mul_assoc]
      have e2 : t / 10 ^ N % 10 * 10 ^ N = 10 ^ N * (t / 10 ^ N % 10) := Nat.mul_comm _ _
      omega
    have hp : 0 < 10 ^ N := Nat.pow_pos (by decide)
    have hle : acc * 10 + t / 10 ^ N % 10 ≤ M := by
      have h3 : (acc * 10 + t / 10 ^ N % 10) * 1 ≤ (acc * 10 + t / 10 ^ N % 10) * 10 ^ N := Nat.mul_le_mul_left _ hp
      omega
    rw [digL, Lib.parseUintM, if_pos ⟨d0, d1⟩, d2, if_neg (by omega), if_neg (by omega), ih _ (by omega), e]

theorem parse_dec (u : Nat) (h : u ≤ 2147483648) : Lib.parseUintB 32 (Lib.decDigits u) = .ok u := by
  obtain ⟨N, g1, g2, g3⟩ := dec_N u
  rw [g3]
  have hne : digL 10 (N + 1) u ≠ [] := by simp [digL]
  have e : (2 ^ 32 - 1 : Nat) = 4294967295 := by decide
  rw [Lib.parseUintB, if_neg hne, e, parse_digL 4294967295 (by decide) (N + 1) u 0 (by rw [Nat.mod_eq_of_lt g2]; omega), Nat.mod_eq_of_lt g2]
  simp
theorem dec_head (u : Nat) : ∃ c r, Lib.decDigits u = c :: r ∧ 48 ≤ c.toNat ∧ c.toNat ≤ 57 := by
  obtain ⟨N, g1, g2, g3⟩ := dec_N u
  have hd := dig_range (u / 10 ^ N % 10) (Nat.mod_lt _ (by decide))
  exact ⟨_, _, g3, hd.1, hd.2.1⟩
theorem dec_len (u : Nat) (h : u ≤ 2147483648) : (Lib.decDigits u).length ≤ 10 := by
  obtain ⟨N, g1, g2, g3⟩ := dec_N u
  rw [g3, digL_length]
  rcases g1 with rfl | g1
  · omega
  · rcases Nat.lt_or_ge N 10 with h1 | h1
    · omega
    · have : (10 : Nat) ^ 10 ≤ 10 ^ N := Nat.pow_le_pow_right (by decide) h1
      omega

theorem itoa_pos {v : Int} (h : 0 ≤ v) : Lib.itoa v = Lib.decDigits v.toNat := by unfold Lib.itoa; rw [if_neg (by omega)]
theorem itoa_neg' {v : Int} (h : v < 0) : Lib.itoa v = 45 :: Lib.decDigits v.natAbs := by unfold Lib.itoa; rw [if_pos h]
theorem itoa_head (v : Int) : ∃ c r, Lib.itoa v = c :: r ∧ c.toNat ≠ 35 ∧ c.toNat ≠ 43 ∧ ((v < 0 ∧ c = 45 ∧ r = Lib.decDigits v.natAbs) ∨ (0 ≤ v ∧ c.toNat ≠ 45)) := by
  by_cases h : v < 0
  · exact ⟨_, _, itoa_neg' h, by decide, by decide, .inl ⟨h, rfl, rfl⟩⟩
  · obtain ⟨c, r, e, h1, h2⟩ := dec_head v.toNat
    exact ⟨c, r, by rw [itoa_pos (by omega), e], by omega, by omega, .inr ⟨by omega, by omega⟩⟩
theorem itoa_len (v : Int) (hv : is32 v) : (Lib.itoa v).length ≤ 11 := by
  obtain ⟨v0, v1⟩ := hv
  by_cases h : v < 0
  · rw [itoa_neg' h, List.length_cons]
    have := dec_len v.natAbs (by omega); omega
  · rw [itoa_pos (by omega)]
    have := dec_len v.toNat (by omega); omega
theorem parse_itoa (v : Int) (hv : is32 v) : Lib.parseIntB 32 (Lib.itoa v) = .ok v := by
  obtain ⟨v0, v1⟩ := hv
  by_cases h : v < 0
  · rw [itoa_neg' h, Lib.parseIntB_minus, parse_dec _ (by omega)]
    have e : (2 ^ (32 - 1) : Nat) = 2147483648 := by decide
    rw [e]
    simp only [Lib.signedC]
    rw [if_neg (by omega)]
    congr 1; omega
  · obtain ⟨c, r, e1, h1, h2⟩ := dec_head v.toNat
    rw [itoa_pos (by omega), e1, Lib.parseIntB_plain 32 c r (by omega) (by omega), ← e1, parse_dec _ (by omega)]
    have e : (2 ^ (32 - 1) : Nat) = 2147483648 := by decide
    rw [e]
    simp only [Lib.signlessC]
    rw [if_neg (by omega)]
    congr 1; omega

/-- A word's text. -/
def textL (v : Int) (h : Bool) : List UInt8 := if h then 35 :: digL 16 8 (u32 v).toNat else Lib.itoa v
theorem u32_lt16 (v : Int) : (u32 v).toNat < 16 ^ 8 := by
  have h := u32_bounds v
  have e : (16 : Nat) ^ 8 = 4294967296 := by decide
  omega
theorem u32_inj {a b : Int} (ha : is32 a) (hb : is32 b) (h : (u32 a).toNat = (u32 b).toNat) : a = b := by
  obtain ⟨a0, a1⟩ := ha
  obtain ⟨b0, b1⟩ := hb
  unfold u32 at h; omega
theorem textL_inj {a b : Int} {g h : Bool} (ha : is32 a) (hb : is32 b) (e : textL a g = textL b h) : a = b ∧ g = h := by
  have head : ∀ x y : Int, ∀ l, (35 :: l : List UInt8) ≠ Lib.itoa y := fun x y l he => by
    obtain ⟨c, r, e1, h1, -, -⟩ := itoa_head y
    rw [e1] at he
    injection he with he _
    subst he
    exact h1 rfl
  cases g <;> cases h
  · simp only [textL] at e
    have h1 := parse_itoa a ha
    have e' : Lib.itoa a = Lib.itoa b := e
    rw [e', parse_itoa b hb] at h1
    injection h1 with h1
    exact ⟨h1.symm, rfl⟩
  · exact absurd e.symm (head b a _)
  · exact absurd e (head a b _)
  · have e' : (35 :: digL 16 8 (u32 a).toNat : List UInt8) = 35 :: digL 16 8 (u32 b).toNat := e
    injection e' with _ e'
    have h1 := valR_digL 16 (by decide) (by decide) 8 _ (u32_lt16 a)
    rw [e', valR_digL 16 (by decide) (by decide) 8 _ (u32_lt16 b)] at h1
    exact ⟨u32_inj ha hb h1.symm, rfl⟩

/-- What Read has to say of a text. -/
def IsRead (l : List UInt8) (v er : Int) : Prop := (er = 0 ∧ is32 v ∧ ∃ h, l = textL v h) ∨ (er = 5 ∧ v = 0 ∧ ∀ v h, is32 v → l ≠ textL v h)
theorem IsRead.unique {l : List UInt8} {v v' er er' : Int} (h : IsRead l v er) (h' : IsRead l v' er') : v = v' ∧ er = er' := by
  rcases h with ⟨rfl, hv, g, e⟩ | ⟨rfl, rfl, hn⟩ <;> rcases h' with ⟨rfl, hv', g', e'⟩ | ⟨rfl, rfl, hn'⟩
  · exact ⟨(textL_inj hv hv' (e ▸ e')).1, rfl⟩
  · exact absurd e (hn' v g hv)
  · exact absurd e' (hn v' g' hv')
  · exact ⟨rfl, rfl⟩
theorem isRead_text {v : Int} (hv : is32 v) (h : Bool) : IsRead (textL v h) v 0 := .inl ⟨rfl, hv, h, rfl⟩

/-! The program's reading of eight hexadecimal digits. -/
theorem valL_foldl (b : Nat) (l : List UInt8) : ∀ t, l.all isHexB = true → l.foldl (fun t c => 16 * t + hv c) t = l.foldl (fun t c => stepR 16 c t 16) t := by
  induction l with
  | nil => intro t _; rfl
  | cons c l ih =>
    intro t h
    rw [List.all_cons, Bool.and_eq_true] at h
    have hh : hit c = hv c := by unfold hit; rw [if_pos h.1]
    have h16 : hv c < 16 := by
      have := h.1
      unfold isHexB at this
      simp only [Bool.or_eq_true, Bool.and_eq_true, decide_eq_true_eq] at this
      unfold hv; split <;> omega
    rw [List.foldl_cons, List.foldl_cons, ih _ h.2, stepR, hh, if_pos h16]
theorem valL_valR {l : List UInt8} (h : l.all isHexB = true) : valL 16 l = valR 16 l := valL_foldl 16 l 0 h
theorem hit_hex {c : UInt8} (h : isHexB c = true) : hit c < 16 := by
  have := h
  unfold isHexB at this
  simp only [Bool.or_eq_true, Bool.and_eq_true, decide_eq_true_eq] at this
  unfold hit; rw [if_pos h]
  unfold hv; split <;> omega
theorem valR_ge (l : List UInt8) (h : l.all isHexB = true) : ∀ t, 16 ^ l.length * t ≤ l.foldl (fun t c => stepR 16 c t 16) t := by
  induction l with
  | nil => intro t; simp
  | cons c l ih =>
    intro t
    rw [List.all_cons, Bool.and_eq_true] at h
    rw [List.foldl_cons, List.length_cons, Nat.pow_succ]
    have h1 := ih h.2 (stepR 16 c t 16)
    have h2 : 16 * t ≤ stepR 16 c t 16 := by rw [stepR, if_pos (hit_hex h.1)]; omega
    have h3 : 16 ^ l.length * (16 * t) ≤ 16 ^ l.length * stepR 16 c t 16 := Nat.mul_le_mul_left _ h2
    rw [← Nat.mul_assoc] at h3
    omega
theorem digL_val (l : List UInt8) (h : l.all isHexB = true) : ∀ acc, digL 16 l.length (l.foldl (fun t c => stepR 16 c t 16) acc) = l := by
  induction l with
  | nil => intro; rfl
  | cons c l ih =>
    intro acc
    rw [List.all_cons, Bool.and_eq_true] at h
    rw [List.foldl_cons, List.length_cons, digL, ih h.2]
    congr 1
    have h16 := hit_hex h.1
    have e1 : stepR 16 c acc 16 = 16 * acc + hit c := by rw [stepR, if_pos h16]
    have h1 := valR_ge l h.2 (stepR 16 c acc 16)
    have h2 := valR_le 16 (by decide) l (stepR 16 c acc 16)
    have hp : 0 < 16 ^ l.length := Nat.pow_pos (by decide)
    have h3 : (l.foldl (fun t c => stepR 16 c t 16) (stepR 16 c acc 16)) / 16 ^ l.length = stepR 16 c acc 16 := by
      refine Nat.div_eq_of_lt_le ?_ ?_
      · rw [Nat.mul_comm]; exact h1
      · rw [Nat.mul_comm]; exact h2
    rw [h3, e1]
    have h4 : (16 * acc + hit c) % 16 = hit c := by omega
    rw [h4]
    exact dig_hit c h16
theorem hex_back (l : List UInt8) (h : l.all isHexB = true) (h8 : l.length = 8) : (35 :: l) = textL (wrap32 (valL 16 l % 4294967296 : Nat)) true ∧ valL 16 l < 4294967296 := by
  have h1 := digL_val l h 0
  have h2 := valR_lt 16 (by decide) l
  rw [h8] at h1 h2
  have e : (16 : Nat) ^ 8 = 4294967296 := by decide
  rw [e] at h2
  rw [valL_valR h]
  refine ⟨?_, h2⟩
  show 35 :: l = 35 :: digL 16 8 (u32 _).toNat
  have e2 : (u32 (wrap32 ((valR 16 l % 4294967296 : Nat) : Int))).toNat = valR 16 l := by
    generalize valR 16 l = z at h2
    unfold u32 wrap32; omega
  rw [e2]
  exact congrArg _ h1.symm
theorem hex_all (z : Nat) (N : Nat) : (digL 16 N z).all isHexB = true := by
  induction N with
  | zero => rfl
  | succ N ih => rw [digL, List.all_cons, ih, isHex_dig _ (Nat.mod_lt _ (by decide))]; rfl
end Go.Proofs.YtbefmlioampgcaaDoor

/- The plain law of texts, second part: what Read has to say. -/
namespace Go.Proofs.YtbefmlioampgcaaDoor
open Go.RowKit
set_option linter.unusedVariables false
set_option linter.unusedSimpArgs false

open Classical in
/-- The answer of Read. -/
noncomputable def readF (l : List UInt8) : Int × Int := if h : ∃ v g, is32 v ∧ l = textL v g then (h.choose, 0) else (0, 5)
theorem readF_text {v : Int} {g : Bool} (hv : is32 v) : readF (textL v g) = (v, 0) := by
  have h : ∃ v' g', is32 v' ∧ textL v g = textL v' g' := ⟨v, g, hv, rfl⟩
  rw [readF, dif_pos h]
  obtain ⟨g', h1, h2⟩ := h.choose_spec
  exact congrArg (fun x => (x, (0 : Int))) (textL_inj hv h1 h2).1.symm
theorem readF_no {l : List UInt8} (h : ∀ v g, is32 v → l ≠ textL v g) : readF l = (0, 5) := by
  rw [readF, dif_neg]
  rintro ⟨v, g, h1, h2⟩
  exact h v g h1 h2
theorem textL_len {v : Int} {g : Bool} (hv : is32 v) : 1 ≤ (textL v g).length ∧ (textL v g).length ≤ 11 := by
  cases g
  · have h := itoa_len v hv
    obtain ⟨c, r, e, -⟩ := itoa_head v
    simp only [textL, Bool.false_eq_true, if_false]
    exact ⟨by rw [e]; simp, h⟩
  · simp [textL, digL_length]
theorem textL_hex {v : Int} {g : Bool} {c : UInt8} {r : List UInt8} (h : c :: r = textL v g) : g = (c == 35) := by
  cases g
  · obtain ⟨c', r', e, h1, -⟩ := itoa_head v
    have e2 : c :: r = c' :: r' := by rw [h]; exact e
    injection e2 with e2 _
    subst e2
    simp only [Bool.false_eq, beq_eq_false_iff_ne, ne_eq]
    rintro rfl; exact h1 rfl
  · have e2 : c :: r = 35 :: digL 16 8 (u32 v).toNat := h
    injection e2 with e2 _
    subst e2; rfl

/-! The program's reading. -/
theorem readF_hex {r : List UInt8} (h : r.all isHexB = true) (h8 : r.length = 8) : readF (35 :: r) = (wrap32 (valL 16 r % 4294967296 : Nat), 0) := by
  rw [(hex_back r h h8).1]
  exact readF_text (wrap32_is _)
theorem readF_hexno {r : List UInt8} (h : r.all isHexB = false ∨ r.length ≠ 8) : readF (35 :: r) = (0, 5) :=
  readF_no fun v g hv e => by
    have hg := textL_hex e
    obtain rfl : g = true := by rw [hg]; rfl
    have e2 : 35 :: r = 35 :: digL 16 8 (u32 v).toNat := e
    injection e2 with _ e2
    subst e2
    rcases h with h | h
    · rw [hex_all] at h; cases h
    · exact h (digL_length _ _ _)
theorem readF_decno {l : List UInt8} (h : ∀ c r, l = c :: r → c ≠ 35) (hp : ∀ v, is32 v → Lib.parseIntB 32 l = .ok v → Lib.itoa v ≠ l) : readF l = (0, 5) :=
  readF_no fun v g hv e => by
    cases g
    · have e2 : l = Lib.itoa v := e
      exact hp v hv (by rw [e2]; exact parse_itoa v hv) e2.symm
    · exact h 35 _ e rfl
theorem readF_dec {v : Int} (hv : is32 v) : readF (Lib.itoa v) = (v, 0) := readF_text (g := false) hv

/-! The reference's reading. -/
/-- The number that the reference tries. -/
def tryV : List UInt8 → Int
  | [] => 0
  | c :: r => if c = 35 then valR 16 r else if c = 45 then -(valR 10 r : Int) else valR 10 (c :: r)
theorem valR_dec (u : Nat) : valR 10 (Lib.decDigits u) = u := by
  obtain ⟨N, g1, g2, g3⟩ := dec_N u
  rw [g3, valR_digL 10 (by decide) (by decide) _ _ g2]
theorem tryV_text (v : Int) (g : Bool) (hv : is32 v) : wrap32 (tryV (textL v g)) = v := by
  have hw : wrap32 v = v := by obtain ⟨a, b⟩ := hv; unfold wrap32; omega
  cases g
  · by_cases h : v < 0
    · have e : textL v false = 45 :: Lib.decDigits v.natAbs := itoa_neg' h
      rw [e, tryV, if_neg (by decide), if_pos rfl, valR_dec]
      have : -((v.natAbs : Nat) : Int) = v := by omega
      rw [this, hw]
    · obtain ⟨c, r, e1, h1, h2⟩ := dec_head v.toNat
      have e : textL v false = c :: r := (itoa_pos (by omega)).trans e1
      have n1 : c ≠ 35 := by rintro rfl; revert h1; decide
      have n2 : c ≠ 45 := by rintro rfl; revert h1; decide
      rw [e, tryV, if_neg n1, if_neg n2, ← e1, valR_dec]
      have : ((v.toNat : Nat) : Int) = v := by omega
      rw [this, hw]
  · have e : textL v true = 35 :: digL 16 8 (u32 v).toNat := rfl
    rw [e, tryV, if_pos rfl, valR_digL 16 (by decide) (by decide) 8 _ (u32_lt16 v)]
    obtain ⟨a, b⟩ := hv
    unfold u32 wrap32; omega
theorem readF_try_yes {c : UInt8} {r : List UInt8} (h : textL (wrap32 (tryV (c :: r))) (c == 35) = c :: r) : readF (c :: r) = (wrap32 (tryV (c :: r)), 0) := by
  have h2 := readF_text (g := c == 35) (wrap32_is (tryV (c :: r)))
  rw [h] at h2; exact h2
theorem readF_try_no {c : UInt8} {r : List UInt8} (h : textL (wrap32 (tryV (c :: r))) (c == 35) ≠ c :: r) : readF (c :: r) = (0, 5) :=
  readF_no fun v g hv e => h (by
    have hg := textL_hex e
    have hv2 : wrap32 (tryV (c :: r)) = v := by rw [e]; exact tryV_text v g hv
    rw [hv2, ← hg, ← e])
theorem readF_len {l : List UInt8} (h : l.length < 1 ∨ 11 < l.length) : readF l = (0, 5) :=
  readF_no fun v g hv e => by
    have := textL_len (g := g) hv
    rw [e] at h; omega
end Go.Proofs.YtbefmlioampgcaaDoor

/- The tables of chapter 05, and what its functions answer, in plain words. -/
namespace Go.Proofs.YtbefmlioampgcaaDoor
open Go.RowKit
set_option linter.unusedVariables false
set_option linter.unusedSimpArgs false

/-- A row of a table. -/
structure IRow where
  fn : Nat
  arg : Nat
  name : List UInt8
  takes : Nat
  leaves : Nat
deriving DecidableEq
/-- The functions: number, mnemonic, words taken and left. -/
def tabF : List IRow := [⟨0, 0, [106], 0, 0⟩,
  ⟨1, 0, [108, 100, 108, 112], 0, 1⟩,
  ⟨3, 0, [108, 100, 110, 108], 1, 1⟩,
  ⟨4, 0, [108, 100, 99], 0, 1⟩,
  ⟨5, 0, [108, 100, 110, 108, 112], 1, 1⟩,
  ⟨7, 0, [108, 100, 108], 0, 1⟩,
  ⟨8, 0, [97, 100, 99], 1, 1⟩,
  ⟨9, 0, [99, 97, 108, 108], 3, 1⟩,
  ⟨10, 0, [99, 106], 1, 0⟩,
  ⟨11, 0, [97, 106, 119], 0, 0⟩,
  ⟨12, 0, [101, 113, 99], 1, 1⟩,
  ⟨13, 0, [115, 116, 108], 1, 0⟩,
  ⟨14, 0, [115, 116, 110, 108], 2, 0⟩]
/-- The operations: code, mnemonic, words taken and left. -/
def tabO : List IRow := [⟨15, 0, [114, 101, 118], 2, 2⟩,
  ⟨15, 1, [108, 98], 1, 1⟩,
  ⟨15, 2, [98, 115, 117, 98], 2, 1⟩,
  ⟨15, 3, [101, 110, 100, 112], 1, 0⟩,
  ⟨15, 4, [100, 105, 102, 102], 2, 1⟩,
  ⟨15, 5, [97, 100, 100], 2, 1⟩,
  ⟨15, 6, [103, 99, 97, 108, 108], 1, 1⟩,
  ⟨15, 7, [105, 110], 3, 0⟩,
  ⟨15, 8, [112, 114, 111, 100], 2, 1⟩,
  ⟨15, 9, [103, 116], 2, 1⟩,
  ⟨15, 10, [119, 115, 117, 98], 2, 1⟩,
  ⟨15, 11, [111, 117, 116], 3, 0⟩,
  ⟨15, 12, [115, 117, 98], 2, 1⟩,
  ⟨15, 13, [115, 116, 97, 114, 116, 112], 2, 0⟩,
  ⟨15, 14, [111, 117, 116, 98, 121, 116, 101], 2, 0⟩,
  ⟨15, 15, [111, 117, 116, 119, 111, 114, 100], 2, 0⟩,
  ⟨15, 16, [115, 101, 116, 101, 114, 114], 0, 0⟩,
  ⟨15, 18, [114, 101, 115, 101, 116, 99, 104], 1, 1⟩,
  ⟨15, 19, [99, 115, 117, 98, 48], 2, 1⟩,
  ⟨15, 21, [115, 116, 111, 112, 112], 0, 0⟩,
  ⟨15, 22, [108, 97, 100, 100], 3, 1⟩,
  ⟨15, 25, [110, 111, 114, 109], 2, 3⟩,
  ⟨15, 26, [108, 100, 105, 118], 3, 2⟩,
  ⟨15, 27, [108, 100, 112, 105], 1, 1⟩,
  ⟨15, 29, [120, 100, 98, 108, 101], 1, 2⟩,
  ⟨15, 30, [108, 100, 112, 114, 105], 0, 1⟩,
  ⟨15, 31, [114, 101, 109], 2, 1⟩,
  ⟨15, 32, [114, 101, 116], 0, 0⟩,
  ⟨15, 33, [108, 101, 110, 100], 2, 0⟩,
  ⟨15, 34, [108, 100, 116, 105, 109, 101, 114], 0, 1⟩,
  ⟨15, 41, [116, 101, 115, 116, 101, 114, 114], 0, 1⟩,
  ⟨15, 43, [116, 105, 110], 1, 0⟩,
  ⟨15, 44, [100, 105, 118], 2, 1⟩,
  ⟨15, 46, [100, 105, 115, 116], 3, 1⟩,
  ⟨15, 47, [100, 105, 115, 99], 3, 1⟩,
  ⟨15, 48, [100, 105, 115, 115], 2, 1⟩,
  ⟨15, 49, [108, 109, 117, 108], 3, 2⟩,
  ⟨15, 50, [110, 111, 116], 1, 1⟩,
  ⟨15, 51, [120, 111, 114], 2, 1⟩,
  ⟨15, 52, [98, 99, 110, 116], 1, 1⟩,
  ⟨15, 53, [108, 115, 104, 114], 3, 2⟩,
  ⟨15, 54, [108, 115, 104, 108], 3, 2⟩,
  ⟨15, 55, [108, 115, 117, 109], 3, 2⟩,
  ⟨15, 56, [108, 115, 117, 98], 3, 1⟩,
  ⟨15, 57, [114, 117, 110, 112], 1, 0⟩,
  ⟨15, 58, [120, 119, 111, 114, 100], 2, 1⟩,
  ⟨15, 59, [115, 98], 2, 0⟩,
  ⟨15, 60, [103, 97, 106, 119], 1, 1⟩,
  ⟨15, 63, [119, 99, 110, 116], 1, 2⟩,
  ⟨15, 64, [115, 104, 114], 2, 1⟩,
  ⟨15, 65, [115, 104, 108], 2, 1⟩,
  ⟨15, 66, [109, 105, 110, 116], 0, 1⟩,
  ⟨15, 67, [97, 108, 116], 0, 0⟩,
  ⟨15, 68, [97, 108, 116, 119, 116], 0, 0⟩,
  ⟨15, 69, [97, 108, 116, 101, 110, 100], 0, 0⟩,
  ⟨15, 70, [97, 110, 100], 2, 1⟩,
  ⟨15, 71, [101, 110, 98, 116], 2, 1⟩,
  ⟨15, 72, [101, 110, 98, 99], 2, 1⟩,
  ⟨15, 73, [101, 110, 98, 115], 1, 1⟩,
  ⟨15, 74, [109, 111, 118, 101], 3, 0⟩,
  ⟨15, 75, [111, 114], 2, 1⟩,
  ⟨15, 76, [99, 115, 110, 103, 108], 2, 1⟩,
  ⟨15, 77, [99, 99, 110, 116, 49], 2, 1⟩,
  ⟨15, 78, [116, 97, 108, 116], 0, 0⟩,
  ⟨15, 79, [108, 100, 105, 102, 102], 3, 2⟩,
  ⟨15, 81, [116, 97, 108, 116, 119, 116], 0, 0⟩,
  ⟨15, 82, [115, 117, 109], 2, 1⟩,
  ⟨15, 83, [109, 117, 108], 2, 1⟩,
  ⟨15, 84, [115, 116, 116, 105, 109, 101, 114], 1, 0⟩,
  ⟨15, 85, [115, 116, 111, 112, 101, 114, 114], 0, 0⟩,
  ⟨15, 86, [99, 119, 111, 114, 100], 2, 1⟩,
  ⟨15, 87, [99, 108, 114, 104, 97, 108, 116, 101, 114, 114], 0, 0⟩,
  ⟨15, 88, [115, 101, 116, 104, 97, 108, 116, 101, 114, 114], 0, 0⟩,
  ⟨15, 89, [116, 101, 115, 116, 104, 97, 108, 116, 101, 114, 114], 0, 1⟩]
def irow0 : IRow := ⟨0, 0, [], 0, 0⟩
/-- The row of an instruction. -/
def findI (fn arg : Int) : Option IRow := if fn = 15 then tabO.find? fun r => (r.arg : Int) == arg else tabF.find? fun r => (r.fn : Int) == fn
/-- The row of a mnemonic. -/
def namedI (n : List UInt8) : Option IRow := (tabF ++ tabO).find? fun r => r.name == n
/-- An instruction's text. -/
def textI (fn arg : Int) : List UInt8 × Int :=
  match findI fn arg with
  | none => ([], 2)
  | some r => (if fn = 15 then r.name else r.name ++ 32 :: textL arg false, 0)
/-- What is read: function, operand, error. -/
noncomputable def readI (l : List UInt8) : Int × Int × Int :=
  match namedI (l.takeWhile (· != 32)) with
  | none => (0, 0, 50)
  | some r =>
    match l.dropWhile (· != 32) with
    | [] => if r.fn = 15 then (r.fn, r.arg, 0) else (0, 0, 5)
    | _ :: o => if r.fn = 15 then (0, 0, 5) else if (readF o).2 = 0 then (r.fn, (readF o).1, 0) else (0, 0, 5)
theorem tabF_len : tabF.length = 13 := rfl
theorem tabO_len : tabO.length = 74 := rfl
theorem names_nodup : ((tabF ++ tabO).map (·.name)).Nodup := by decide +kernel
theorem fns_nodup : (tabF.map (·.fn)).Nodup := by decide
theorem args_nodup : (tabO.map (·.arg)).Nodup := by decide +kernel
theorem tabF_ok : ∀ r ∈ tabF, r.fn < 15 ∧ r.arg = 0 ∧ r.name ≠ [] ∧ (∀ c ∈ r.name, c ≠ 32) ∧ r.name.length ≤ 12 ∧ r.takes ≤ 3 ∧ r.leaves ≤ 3 ∧ r.leaves ≤ r.takes + 1 := by decide +kernel
theorem tabO_ok : ∀ r ∈ tabO, r.fn = 15 ∧ r.arg < 256 ∧ r.name ≠ [] ∧ (∀ c ∈ r.name, c ≠ 32) ∧ r.name.length ≤ 12 ∧ r.takes ≤ 3 ∧ r.leaves ≤ 3 ∧ r.leaves ≤ r.takes + 1 := by decide +kernel
theorem takeWhile_all {l m : List UInt8} (h : ∀ c ∈ l, c ≠ 32) : (l ++ 32 :: m).takeWhile (· != 32) = l ∧ (l ++ 32 :: m).dropWhile (· != 32) = 32 :: m := by
  induction l with
  | nil => simp
  | cons c l ih =>
    have hc : (c != 32) = true := by simpa using h c (by simp)
    obtain ⟨h1, h2⟩ := ih fun c hc => h c (by simp [hc])
    simp [hc, h1, h2]
theorem takeWhile_none {l : List UInt8} (h : ∀ c ∈ l, c ≠ 32) : l.takeWhile (· != 32) = l ∧ l.dropWhile (· != 32) = [] := by
  induction l with
  | nil => simp
  | cons c l ih =>
    have hc : (c != 32) = true := by simpa using h c (by simp)
    obtain ⟨h1, h2⟩ := ih fun c hc => h c (by simp [hc])
    simp [hc, h1, h2]
theorem find_nodup {α β : Type} [BEq β] [LawfulBEq β] (f : α → β) : ∀ (l : List α), (l.map f).Nodup → ∀ x ∈ l, l.find? (fun y => f y == f x) = some x
  | [], _, x, h => by cases h
  | y :: l, hn, x, h => by
    rw [List.map_cons, List.nodup_cons] at hn
    rw [List.find?_cons]
    by_cases he : f y = f x
    · rcases List.mem_cons.1 h with rfl | h2
      · simp
      · exact absurd (he ▸ List.mem_map_of_mem h2) hn.1
    · have hne : (f y == f x) = false := by simpa using he
      rw [hne]
      rcases List.mem_cons.1 h with rfl | h2
      · exact absurd rfl he
      · exact find_nodup f l hn.2 x h2
theorem named_of {r : IRow} (h : r ∈ tabF ++ tabO) : namedI r.name = some r := find_nodup (fun q : IRow => q.name) (tabF ++ tabO) names_nodup r h
theorem findI_some {fn arg : Int} {r : IRow} (h : findI fn arg = some r) : r ∈ tabF ++ tabO ∧ ((fn = 15 ∧ r.fn = 15 ∧ (r.arg : Int) = arg) ∨ (fn ≠ 15 ∧ (r.fn : Int) = fn ∧ r.arg = 0)) := by
  unfold findI at h
  split at h
  · rename_i hf
    have hm := List.mem_of_find?_eq_some h
    have hp := List.find?_some h
    simp only [beq_iff_eq] at hp
    exact ⟨List.mem_append_right _ hm, .inl ⟨hf, (tabO_ok r hm).1, hp⟩⟩
  · rename_i hf
    have hm := List.mem_of_find?_eq_some h
    have hp := List.find?_some h
    simp only [beq_iff_eq] at hp
    exact ⟨List.mem_append_left _ hm, .inr ⟨hf, hp, (tabF_ok r hm).2.1⟩⟩
theorem row_ok {r : IRow} (h : r ∈ tabF ++ tabO) : r.name ≠ [] ∧ (∀ c ∈ r.name, c ≠ 32) ∧ r.name.length ≤ 12 := by
  rcases List.mem_append.1 h with h | h
  · have := tabF_ok r h; exact ⟨this.2.2.1, this.2.2.2.1, this.2.2.2.2.1⟩
  · have := tabO_ok r h; exact ⟨this.2.2.1, this.2.2.2.1, this.2.2.2.2.1⟩
/-- What is written is read back. -/
theorem read_text_I {fn arg : Int} (ha : is32 arg) (h : (textI fn arg).2 = 0) : readI (textI fn arg).1 = (fn, arg, 0) := by
  unfold textI at h ⊢
  cases hf : findI fn arg with
  | none => rw [hf] at h; cases h
  | some r =>
    obtain ⟨hm, hc⟩ := findI_some hf
    obtain ⟨h1, h2, h3⟩ := row_ok hm
    rcases hc with ⟨rfl, e1, e2⟩ | ⟨h15, e1, e2⟩
    · simp only [if_true]
      obtain ⟨t1, t2⟩ := takeWhile_none h2
      rw [readI, t1, named_of hm]
      simp only [t2, e1, if_true, e2]
      rfl
    · simp only [if_neg h15]
      obtain ⟨t1, t2⟩ := takeWhile_all (m := textL arg false) h2
      rw [readI, t1, named_of hm]
      have hn : ¬ r.fn = 15 := fun h => h15 (by rw [← e1, h]; rfl)
      simp only [t2, if_neg hn, readF_text ha, if_true, e1]
/-- Different instructions have different texts. -/
theorem text_inj_I {f a g b : Int} (ha : is32 a) (hb : is32 b) (h1 : (textI f a).2 = 0) (h2 : (textI g b).2 = 0) (h : (textI f a).1 = (textI g b).1) : f = g ∧ a = b := by
  have e1 := read_text_I ha h1
  rw [h, read_text_I hb h2] at e1
  injection e1 with e1 e2
  injection e2 with e2 _
  exact ⟨e1.symm, e2.symm⟩
end Go.Proofs.YtbefmlioampgcaaDoor

/- The plain laws of chapter 05: wrong texts, other forms, mnemonics. -/
namespace Go.Proofs.YtbefmlioampgcaaDoor
open Go.RowKit
set_option linter.unusedVariables false
set_option linter.unusedSimpArgs false

theorem dig_ne32 : ∀ d, d < 16 → dig d ≠ 32 := by decide
theorem digL_mem {b : Nat} (hb : 0 < b) (hb16 : b ≤ 16) (t : Nat) : ∀ i, ∀ c ∈ digL b i t, ∃ d, d < 16 ∧ c = dig d
  | 0, c, h => by cases h
  | i + 1, c, h => by
    rw [digL] at h
    rcases List.mem_cons.1 h with rfl | h
    · exact ⟨_, by have := Nat.mod_lt (t / b ^ i) hb; omega, rfl⟩
    · exact digL_mem hb hb16 t i c h
theorem dec_ne32 (u : Nat) : ∀ c ∈ Lib.decDigits u, c ≠ 32 := by
  obtain ⟨N, _, _, g3⟩ := dec_N u
  rw [g3]
  intro c hc
  obtain ⟨d, hd, rfl⟩ := digL_mem (by decide) (by decide) u _ c hc
  exact dig_ne32 d hd
theorem textL_ne32 (v : Int) (g : Bool) : ∀ c ∈ textL v g, c ≠ 32 := by
  intro c hc
  cases g
  · have hc' : c ∈ Lib.itoa v := hc
    by_cases h : v < 0
    · rw [itoa_neg' h] at hc'
      rcases List.mem_cons.1 hc' with rfl | h
      · decide
      · exact dec_ne32 _ c h
    · rw [itoa_pos (by omega)] at hc'
      exact dec_ne32 _ c hc'
  · have hc' : c ∈ 35 :: digL 16 8 (u32 v).toNat := hc
    rcases List.mem_cons.1 hc' with rfl | h
    · decide
    · obtain ⟨d, hd, rfl⟩ := digL_mem (by decide) (by decide) _ _ c h
      exact dig_ne32 d hd
theorem readF_space {l : List UInt8} (h : (32 : UInt8) ∈ l) : readF l = (0, 5) :=
  readF_no fun v g _ e => textL_ne32 v g 32 (e ▸ h) rfl
theorem named_none {n : List UInt8} (h : ∀ r ∈ tabF ++ tabO, r.name ≠ n) : namedI n = none := by
  unfold namedI
  rw [List.find?_eq_none]
  intro r hr
  simpa using h r hr
theorem named_some {n : List UInt8} {r : IRow} (h : namedI n = some r) : r ∈ tabF ++ tabO ∧ r.name = n := by
  unfold namedI at h
  have hp := List.find?_some h
  exact ⟨List.mem_of_find?_eq_some h, by simpa using hp⟩
theorem row_15 {r : IRow} (h : r ∈ tabF ++ tabO) : (r.fn = 15 ∧ r ∈ tabO ∧ r.arg < 256) ∨ (r.fn < 15 ∧ r ∈ tabF ∧ r.arg = 0) := by
  rcases List.mem_append.1 h with h | h
  · exact .inr ⟨(tabF_ok r h).1, h, (tabF_ok r h).2.1⟩
  · exact .inl ⟨(tabO_ok r h).1, h, (tabO_ok r h).2.1⟩
/-- A space in front. -/
theorem read_front (l : List UInt8) : readI (32 :: l) = (0, 0, 50) := by
  have h : namedI [] = none := named_none fun r hr => (row_ok hr).1
  rw [readI]
  have e : (32 :: l).takeWhile (fun x => x != 32) = [] := rfl
  rw [e, h]
/-- The parts of a text. -/
theorem text_parts {fn arg : Int} (h : (textI fn arg).2 = 0) : ∃ r, r ∈ tabF ++ tabO ∧ findI fn arg = some r ∧
    ((fn = 15 ∧ r.fn = 15 ∧ (r.arg : Int) = arg ∧ (textI fn arg).1 = r.name) ∨ (fn ≠ 15 ∧ (r.fn : Int) = fn ∧ r.fn ≠ 15 ∧ (textI fn arg).1 = r.name ++ 32 :: textL arg false)) := by
  unfold textI at h ⊢
  cases hf : findI fn arg with
  | none => rw [hf] at h; cases h
  | some r =>
    obtain ⟨hm, hc⟩ := findI_some hf
    refine ⟨r, hm, rfl, ?_⟩
    rcases hc with ⟨rfl, e1, e2⟩ | ⟨h15, e1, e2⟩
    · exact .inl ⟨rfl, e1, e2, by simp⟩
    · exact .inr ⟨h15, e1, fun h => h15 (by rw [← e1, h]; rfl), by simp [h15]⟩
theorem read_name {r : IRow} (hm : r ∈ tabF ++ tabO) (m : List UInt8) : readI (r.name ++ 32 :: m) = if r.fn = 15 then (0, 0, 5) else if (readF m).2 = 0 then ((r.fn : Int), (readF m).1, (0 : Int)) else (0, 0, 5) := by
  obtain ⟨t1, t2⟩ := takeWhile_all (m := m) (row_ok hm).2.1
  rw [readI, t1, named_of hm]
  simp only [t2]
theorem read_bare {r : IRow} (hm : r ∈ tabF ++ tabO) : readI r.name = if r.fn = 15 then ((r.fn : Int), (r.arg : Int), (0 : Int)) else (0, 0, 5) := by
  obtain ⟨t1, t2⟩ := takeWhile_none (row_ok hm).2.1
  rw [readI, t1, named_of hm]
  simp only [t2]
/-- A space behind. -/
theorem read_behind {fn arg : Int} (h : (textI fn arg).2 = 0) : readI ((textI fn arg).1 ++ [32]) = (0, 0, 5) := by
  obtain ⟨r, hm, _, ⟨rfl, e1, e2, e3⟩ | ⟨h15, e1, e2, e3⟩⟩ := text_parts h
  · rw [e3, read_name hm, if_pos e1]
  · rw [e3, List.append_assoc, List.cons_append, read_name hm, if_neg e2, readF_space (by simp)]
    rfl
/-- The space doubled. -/
theorem read_double {r : IRow} (hm : r ∈ tabF ++ tabO) (h : r.fn ≠ 15) (m : List UInt8) : readI (r.name ++ 32 :: 32 :: m) = (0, 0, 5) := by
  rw [read_name hm, if_neg h, readF_space (by simp)]
  rfl
theorem read_text2 {r : IRow} (hm : r ∈ tabF ++ tabO) (h : r.fn ≠ 15) {arg : Int} (ha : is32 arg) (g : Bool) : readI (r.name ++ 32 :: textL arg g) = ((r.fn : Int), arg, (0 : Int)) := by
  rw [read_name hm, if_neg h, readF_text ha]
  rfl
/-- Upper case. -/
def upB (c : UInt8) : UInt8 := if 97 ≤ c.toNat ∧ c.toNat ≤ 122 then c - 32 else c
theorem upper_none : ∀ r ∈ tabF ++ tabO, (∀ q ∈ tabF ++ tabO, q.name ≠ r.name.map upB) ∧ (∀ c ∈ r.name.map upB, c ≠ 32) ∧ r.name.map upB ≠ [] := by decide +kernel
theorem read_upper {r : IRow} (hm : r ∈ tabF ++ tabO) : readI (r.name.map upB) = (0, 0, 50) := by
  obtain ⟨h1, h2, h3⟩ := upper_none r hm
  rw [readI, (takeWhile_none h2).1, named_none h1]
theorem name_low : ∀ r ∈ tabF ++ tabO, ∀ c ∈ r.name, (97 ≤ c.toNat ∧ c.toNat ≤ 122) ∨ (48 ≤ c.toNat ∧ c.toNat ≤ 57) := by decide +kernel
theorem find_of_named {n : List UInt8} {r : IRow} (h : namedI n = some r) : findI r.fn r.arg = some r := by
  obtain ⟨hm, -⟩ := named_some h
  unfold findI
  rcases row_15 hm with ⟨h15, ho, _⟩ | ⟨h15, hf, h0⟩
  · rw [if_pos (by rw [h15]; rfl)]
    have := find_nodup (fun q : IRow => q.arg) tabO args_nodup r ho
    have e : (fun q : IRow => ((q.arg : Nat) : Int) == ((r.arg : Nat) : Int)) = fun q => q.arg == r.arg := by
      funext q; rw [Bool.eq_iff_iff]; simp; omega
    rw [e]; exact this
  · rw [if_neg (by omega)]
    have := find_nodup (fun q : IRow => q.fn) tabF fns_nodup r hf
    have e : (fun q : IRow => ((q.fn : Nat) : Int) == ((r.fn : Nat) : Int)) = fun q => q.fn == r.fn := by
      funext q; rw [Bool.eq_iff_iff]; simp; omega
    rw [e]; exact this
end Go.Proofs.YtbefmlioampgcaaDoor

/- The encoding of instructions, and the least lengths of lines, in plain words. -/
namespace Go.Proofs.YtbefmlioampgcaaDoor

/-- A function with an operand that is no negative number. -/
def encF : Nat → Nat → Nat → List UInt8
  | 0, fn, m => [UInt8.ofNat (16 * fn + m % 16)]
  | k + 1, fn, m => if 16 ≤ m then encF k 2 (m / 16) ++ [UInt8.ofNat (16 * fn + m % 16)] else [UInt8.ofNat (16 * fn + m % 16)]
/-- An instruction's bytes. -/
def encI (fn : Nat) (v : Int) : List UInt8 :=
  if v < 0 then encF 8 6 ((-1 - v) / 16).toNat ++ [UInt8.ofNat (16 * fn + (v % 16).toNat)] else encF 8 fn v.toNat
def nib : Nat → Nat → Nat
  | 0, _ => 1
  | k + 1, m => if 16 ≤ m then nib k (m / 16) + 1 else 1
theorem encF_len : ∀ (k fn m : Nat), (encF k fn m).length = nib k m
  | 0, _, _ => rfl
  | k + 1, fn, m => by
    rw [encF, nib]
    split
    · rw [List.length_append, encF_len k]; rfl
    · rfl
/-- How many bytes an operand takes. -/
def lenV (v : Int) : Nat := if v < 0 then nib 8 ((-1 - v) / 16).toNat + 1 else nib 8 v.toNat
theorem encI_len (fn : Nat) (v : Int) : (encI fn v).length = lenV v := by
  unfold encI lenV
  split
  · rw [List.length_append, encF_len]; rfl
  · rw [encF_len]
theorem nib_mono : ∀ (k m m' : Nat), m ≤ m' → nib k m ≤ nib k m'
  | 0, _, _, _ => Nat.le_refl _
  | k + 1, m, m', h => by
    rw [nib, nib]
    have h1 := nib_mono k (m / 16) (m' / 16) (Nat.div_le_div_right h)
    split <;> split <;> omega
theorem nib_pos (k m : Nat) : 1 ≤ nib k m := by
  cases k with
  | zero => exact Nat.le_refl _
  | succ k => rw [nib]; split <;> omega
theorem nib_le : ∀ (j k m : Nat), m < 16 ^ (j + 1) → nib k m ≤ j + 1
  | _, 0, _, _ => by rw [nib]; omega
  | 0, k + 1, m, h => by rw [nib, if_neg (by simpa using h)]; omega
  | j + 1, k + 1, m, h => by
    rw [nib]
    split
    · have := nib_le j k (m / 16) (by rw [Nat.div_lt_iff_lt_mul (by decide)]; rw [Nat.pow_succ] at h; exact h)
      omega
    · omega
theorem lenV_pos (v : Int) : 1 ≤ lenV v := by
  unfold lenV; split
  · omega
  · exact nib_pos _ _
theorem lenV_le {v : Int} (h : -2147483648 ≤ v ∧ v ≤ 2147483647) : lenV v ≤ 8 := by
  unfold lenV
  split
  · have := nib_le 6 8 ((-1 - v) / 16).toNat (by have : (16 : Nat) ^ (6 + 1) = 268435456 := by decide
                                                 omega)
    omega
  · exact nib_le 7 8 v.toNat (by have : (16 : Nat) ^ (7 + 1) = 4294967296 := by decide
                                 omega)
theorem lenV_up {a b : Int} (h0 : 0 ≤ a) (h : a ≤ b) : lenV a ≤ lenV b := by
  unfold lenV
  rw [if_neg (by omega), if_neg (by omega)]
  exact nib_mono _ _ _ (by omega)
theorem lenV_down {a b : Int} (h0 : a ≤ 0) (h : b ≤ a) : lenV a ≤ lenV b := by
  unfold lenV
  by_cases ha : a < 0
  · rw [if_pos ha, if_pos (by omega)]
    have := nib_mono 8 ((-1 - a) / 16).toNat ((-1 - b) / 16).toNat (by omega)
    omega
  · obtain rfl : a = 0 := by omega
    have h1 : nib 8 (0 : Int).toNat = 1 := by decide
    rw [if_neg (by omega), h1]
    split
    · omega
    · exact nib_pos _ _

/-- The sum of the first k lengths. -/
def adr (l : List Nat) : Nat → Nat
  | 0 => 0
  | k + 1 => adr l k + l.getD k 0
/-- One list of lengths lies below another one. -/
def LE (l m : List Nat) : Prop := l.length = m.length ∧ ∀ i, l.getD i 0 ≤ m.getD i 0
theorem LE.refl (l : List Nat) : LE l l := ⟨rfl, fun _ => Nat.le_refl _⟩
theorem LE.trans {l m n : List Nat} (h : LE l m) (k : LE m n) : LE l n := ⟨h.1.trans k.1, fun i => Nat.le_trans (h.2 i) (k.2 i)⟩
theorem LE.antisymm {l m : List Nat} (h : LE l m) (k : LE m l) : l = m := by
  apply List.ext_getElem h.1
  intro i h1 h2
  have a := h.2 i
  have b := k.2 i
  rw [List.getD_eq_getElem?_getD, List.getD_eq_getElem?_getD, List.getElem?_eq_getElem h1, List.getElem?_eq_getElem h2] at a b
  simp at a b
  omega
theorem adr_mono (l : List Nat) {a b : Nat} (h : a ≤ b) : adr l a ≤ adr l b := by
  induction b with
  | zero => obtain rfl : a = 0 := by omega
            exact Nat.le_refl _
  | succ b ih =>
    by_cases hab : a = b + 1
    · rw [hab]; exact Nat.le_refl _
    · have := ih (by omega)
      rw [adr]; omega
theorem adr_diff {l m : List Nat} (hl : LE l m) {a b : Nat} (h : a ≤ b) : (adr l b : Int) - adr l a ≤ (adr m b : Int) - adr m a := by
  induction b with
  | zero => obtain rfl : a = 0 := by omega
            simp
  | succ b ih =>
    by_cases hab : a = b + 1
    · rw [hab]; omega
    · have h1 := ih (by omega)
      have h2 := hl.2 b
      rw [adr, adr]
      omega
/-- The bytes that an operand 'the address of t less that of f' takes grow with the lengths. -/
theorem len_diff {l m : List Nat} (hl : LE l m) (t f : Nat) : lenV ((adr l t : Int) - adr l f) ≤ lenV ((adr m t : Int) - adr m f) := by
  rcases Nat.le_total f t with h | h
  · have h1 := adr_diff hl h
    have h2 := adr_mono l h
    exact lenV_up (by omega) h1
  · have h1 := adr_diff hl h
    have h2 := adr_mono l h
    exact lenV_down (by omega) (by omega)

/-- What a line's operand is: a number, or the difference of two lines' addresses. -/
abbrev Opd := Sum Int (Nat × Nat)
def valO (l : List Nat) : Opd → Int
  | .inl v => v
  | .inr (t, f) => (adr l t : Int) - adr l f
/-- How many bytes the lines need, with lengths. -/
def needL (os : List Opd) (l : List Nat) : List Nat := os.map fun o => lenV (valO l o)
theorem needL_len (os : List Opd) (l : List Nat) : (needL os l).length = os.length := by simp [needL]
theorem needL_get {os : List Opd} {i : Nat} {o : Opd} (l : List Nat) (h : os[i]? = some o) : (needL os l).getD i 0 = lenV (valO l o) := by
  rw [List.getD_eq_getElem?_getD]; simp [needL, h]
theorem needL_mono (os : List Opd) {l m : List Nat} (h : LE l m) : LE (needL os l) (needL os m) := by
  refine ⟨by rw [needL_len, needL_len], fun i => ?_⟩
  rcases Nat.lt_or_ge i os.length with hi | hi
  · have hg : os[i]? = some os[i] := List.getElem?_eq_getElem hi
    rw [needL_get l hg, needL_get m hg]
    cases os[i] with
    | inl v => exact Nat.le_refl _
    | inr p =>
      obtain ⟨t, f⟩ := p
      exact len_diff h t f
  · rw [List.getD_eq_getElem?_getD, List.getD_eq_getElem?_getD, List.getElem?_eq_none (by rw [needL_len]; exact hi), List.getElem?_eq_none (by rw [needL_len]; exact hi)]
    exact Nat.le_refl _
/-- Operands that stay words, whatever the lengths up to eight. -/
def Fit (os : List Opd) : Prop := os.length ≤ 4096 ∧ ∀ o ∈ os, match o with | .inl v => -2147483648 ≤ v ∧ v ≤ 2147483647 | .inr (t, f) => t ≤ os.length ∧ f ≤ os.length
theorem adr_le {l : List Nat} (h : ∀ i, l.getD i 0 ≤ 8) : ∀ k, adr l k ≤ 8 * k
  | 0 => Nat.le_refl _
  | k + 1 => by rw [adr]; have := adr_le h k; have := h k; omega
theorem needL_le {os : List Opd} (hf : Fit os) {l : List Nat} (h : ∀ i, l.getD i 0 ≤ 8) : ∀ i, (needL os l).getD i 0 ≤ 8 := by
  intro i
  rcases Nat.lt_or_ge i os.length with hi | hi
  · have hg : os[i]? = some os[i] := List.getElem?_eq_getElem hi
    rw [needL_get l hg]
    have h1 := hf.2 os[i] (List.getElem_mem hi)
    cases ho : os[i] with
    | inl v => rw [ho] at h1; exact lenV_le h1
    | inr p =>
      obtain ⟨t, f⟩ := p
      
      rw [ho] at h1
      simp only at h1
      have a := adr_le h t
      have b := adr_le h f
      have c := hf.1
      exact lenV_le (by show _ ∧ _; simp only [valO]; omega)
  · rw [List.getD_eq_getElem?_getD, List.getElem?_eq_none (by rw [needL_len]; exact hi)]
    simp
theorem needL_pos {os : List Opd} (l : List Nat) {i : Nat} (hi : i < os.length) : 1 ≤ (needL os l).getD i 0 := by
  rw [needL_get l (List.getElem?_eq_getElem hi)]; exact lenV_pos _
/-- The lengths by rounds, from one byte each. -/
def runL (os : List Opd) : Nat → List Nat → List Nat
  | 0, l => l
  | k + 1, l => if needL os l = l then l else runL os k (needL os l)
def ones (n : Nat) : List Nat := List.replicate n 1
theorem ones_get (n i : Nat) : (ones n).getD i 0 = if i < n then 1 else 0 := by
  rw [List.getD_eq_getElem?_getD, ones, List.getElem?_replicate]
  split <;> rfl
/-- The least lengths. -/
def fixL (os : List Opd) : List Nat := runL os (7 * os.length + 1) (ones os.length)
theorem adr_lt {l m : List Nat} (h : LE l m) (hne : l ≠ m) : adr l l.length < adr m m.length := by
  have h0 : ∀ k, adr l k ≤ adr m k := by
    intro k
    induction k with
    | zero => exact Nat.le_refl _
    | succ k ih => rw [adr, adr]; have := h.2 k; omega
  by_cases hx : ∃ i, i < l.length ∧ l.getD i 0 < m.getD i 0
  · obtain ⟨i, hi, hlt⟩ := hx
    have : ∀ k, i < k → adr l k < adr m k := by
      intro k
      induction k with
      | zero => intro h; omega
      | succ k ih =>
        intro hk
        rw [adr, adr]
        by_cases hik : i = k
        · subst hik; have := h0 i; omega
        · have := ih (by omega); have := h.2 k; omega
    rw [← h.1]
    exact this _ hi
  · exfalso
    apply hne
    apply h.antisymm
    refine ⟨h.1.symm, fun i => ?_⟩
    rcases Nat.lt_or_ge i l.length with hi | hi
    · exact Nat.le_of_not_lt fun hlt => hx ⟨i, hi, hlt⟩
    · have e1 : m.getD i 0 = 0 := by rw [List.getD_eq_getElem?_getD, List.getElem?_eq_none (by rw [← h.1]; exact hi)]; rfl
      rw [e1]; exact Nat.zero_le _
theorem ones_le {n : Nat} {l : List Nat} (hn : l.length = n) (h : ∀ i, i < n → 1 ≤ l.getD i 0) : LE (ones n) l := by
  refine ⟨by simp [ones, hn], fun i => ?_⟩
  rw [ones_get]
  split
  · exact h i (by assumption)
  · exact Nat.zero_le _
theorem runL_fix {os : List Opd} (hf : Fit os) : ∀ (k : Nat) (l : List Nat), l.length = os.length → LE l (needL os l) → (∀ i, l.getD i 0 ≤ 8) → 8 * os.length < adr l os.length + k →
    needL os (runL os k l) = runL os k l ∧ LE l (runL os k l) ∧ (∀ i, (runL os k l).getD i 0 ≤ 8)
  | 0, l, hl, hle, h8, hk => by
    have := adr_le h8 os.length
    omega
  | k + 1, l, hl, hle, h8, hk => by
    rw [runL]
    by_cases he : needL os l = l
    · rw [if_pos he]; exact ⟨he, LE.refl _, h8⟩
    · rw [if_neg he]
      have h1 := adr_lt hle (fun h => he h.symm)
      rw [needL_len, hl] at h1
      obtain ⟨a, b, c⟩ := runL_fix hf k (needL os l) (needL_len _ _) (needL_mono os hle) (needL_le hf h8) (by omega)
      exact ⟨a, hle.trans b, c⟩
theorem ones_need (os : List Opd) : LE (ones os.length) (needL os (ones os.length)) := ones_le (needL_len _ _) fun _ h => needL_pos _ h
theorem ones_8 (n i : Nat) : (ones n).getD i 0 ≤ 8 := by rw [ones_get]; split <;> omega
theorem adr_ones (n : Nat) : ∀ k, k ≤ n → adr (ones n) k = k
  | 0, _ => rfl
  | k + 1, h => by rw [adr, adr_ones n k (by omega), ones_get, if_pos (by omega)]
theorem fixL_fix {os : List Opd} (hf : Fit os) : needL os (fixL os) = fixL os ∧ LE (ones os.length) (fixL os) ∧ (∀ i, (fixL os).getD i 0 ≤ 8) :=
  runL_fix hf _ _ (by simp [ones]) (ones_need os) (ones_8 _) (by rw [adr_ones _ _ (Nat.le_refl _)]; omega)
theorem runL_least {os : List Opd} {m : List Nat} (hm : LE (needL os m) m) : ∀ (k : Nat) (l : List Nat), LE l m → LE (runL os k l) m
  | 0, l, h => h
  | k + 1, l, h => by
    rw [runL]
    split
    · exact h
    · exact runL_least hm k _ ((needL_mono os h).trans hm)
/-- No sufficient lengths are shorter anywhere. -/
theorem fixL_least {os : List Opd} {m : List Nat} (hm : LE (needL os m) m) : LE (fixL os) m :=
  runL_least hm _ _ (ones_le (by rw [← hm.1, needL_len]) fun i hi => Nat.le_trans (needL_pos m hi) (hm.2 i))
theorem fixL_len {os : List Opd} (hf : Fit os) : (fixL os).length = os.length := by rw [← (fixL_fix hf).1, needL_len]
/-- Lengths that lie below the least ones, and need no more, are the least ones. -/
theorem fixL_of {os : List Opd} {l : List Nat} (h1 : LE l (fixL os)) (h2 : LE (needL os l) l) : l = fixL os := h1.antisymm (fixL_least h2)
theorem fixL_one {os : List Opd} (_ : Fit os) {l : List Nat} (h : needL os l = l) : LE (fixL os) l := fixL_least (by rw [h]; exact LE.refl _)
end Go.Proofs.YtbefmlioampgcaaDoor

/- Lines of assembly in plain words: which are valid, their text, and how it is read. -/
namespace Go.Proofs.YtbefmlioampgcaaDoor
open Go.RowKit
set_option linter.unusedVariables false
set_option linter.unusedSimpArgs false

structure LineL where
  label : List UInt8
  fn : Nat
  arg : Int
  target : List UInt8
  frm : List UInt8
deriving DecidableEq
def letterB (c : UInt8) : Bool := (decide (97 ≤ c.toNat) && decide (c.toNat ≤ 122)) || (decide (65 ≤ c.toNat) && decide (c.toNat ≤ 90))
def otherB (c : UInt8) : Bool := (decide (48 ≤ c.toNat) && decide (c.toNat ≤ 57)) || c.toNat == 46
/-- A label's form. -/
def labelB (l : List UInt8) : Bool := match l with
  | [] => false
  | c :: r => letterB c && r.all (fun c => letterB c || otherB c) && decide ((c :: r).length ≤ 32)
def validB (x : LineL) : Bool :=
  (x.label.isEmpty || labelB x.label) &&
    (if x.target.isEmpty then x.frm.isEmpty && (findI (x.fn : Int) x.arg).isSome
     else labelB x.target && (x.frm.isEmpty || labelB x.frm) && x.arg == 0 && decide (x.fn < 15) && !(x.fn == 2) && !(x.fn == 6))
/-- The line with a label. -/
def atL (ls : List LineL) (n : List UInt8) : Option Nat := ls.findIdx? fun x => x.label == n
def okL (ls : List LineL) (i : Nat) (x : LineL) : Bool :=
  (x.label.isEmpty || atL ls x.label == some i) && (x.target.isEmpty || (atL ls x.target).isSome) && (x.frm.isEmpty || (atL ls x.frm).isSome)
/-- The error of lines: 0, 2 or 60. -/
def checkE (ls : List LineL) : Int := if ls.all validB then (if (ls.zipIdx.all fun p => okL ls p.2 p.1) then 0 else 60) else 2
/-- A line's operand. -/
def opdL (ls : List LineL) (i : Nat) (x : LineL) : Opd :=
  if x.target.isEmpty then .inl x.arg else .inr ((atL ls x.target).getD 0, if x.frm.isEmpty then i + 1 else (atL ls x.frm).getD 0)
def opds (ls : List LineL) : List Opd := ls.zipIdx.map fun p => opdL ls p.2 p.1
theorem opds_len (ls : List LineL) : (opds ls).length = ls.length := by simp [opds]
theorem opds_get {ls : List LineL} {i : Nat} {x : LineL} (h : ls[i]? = some x) : (opds ls)[i]? = some (opdL ls i x) := by
  simp [opds, List.getElem?_zipIdx, h]
theorem atL_lt {ls : List LineL} {n : List UInt8} {j : Nat} (h : atL ls n = some j) : j < ls.length := by
  unfold atL at h
  obtain ⟨hj, -⟩ := List.findIdx?_eq_some_iff_getElem.1 h
  exact hj
theorem atL_getD_le {ls : List LineL} (n : List UInt8) : (atL ls n).getD 0 ≤ ls.length := by
  cases h : atL ls n with
  | none => exact Nat.zero_le _
  | some j => exact Nat.le_of_lt (atL_lt h)
theorem opds_fit {ls : List LineL} (hn : ls.length ≤ 4096) (ha : ∀ x ∈ ls, is32 x.arg) : Fit (opds ls) := by
  refine ⟨by rw [opds_len]; exact hn, fun o ho => ?_⟩
  obtain ⟨i, hi, rfl⟩ := List.getElem_of_mem ho
  rw [opds_len] at hi
  have hg := opds_get (List.getElem?_eq_getElem hi)
  have e : (opds ls)[i]'(by rw [opds_len]; exact hi) = opdL ls i ls[i] := by
    rw [List.getElem?_eq_getElem (by rw [opds_len]; exact hi)] at hg
    exact Option.some.inj hg
  rw [e, opds_len]
  by_cases ht : ls[i].target.isEmpty = true
  · have e2 : opdL ls i ls[i] = .inl ls[i].arg := by unfold opdL; rw [if_pos ht]
    rw [e2]
    exact ha _ (List.getElem_mem hi)
  · have e2 : opdL ls i ls[i] = .inr ((atL ls ls[i].target).getD 0, if ls[i].frm.isEmpty then i + 1 else (atL ls ls[i].frm).getD 0) := by unfold opdL; rw [if_neg ht]
    rw [e2]
    refine ⟨atL_getD_le _, ?_⟩
    split
    · omega
    · exact atL_getD_le _
/-- The code of lines. -/
def codeL (ls : List LineL) : List UInt8 := ls.zipIdx.flatMap fun p => encI p.1.fn (valO (fixL (opds ls)) (opdL ls p.2 p.1))
/-- A line's text, without its end. -/
def tailT (x : LineL) : List UInt8 :=
  if x.fn = 15 then [] else if x.target.isEmpty then 32 :: textL x.arg false else if x.frm.isEmpty then 32 :: x.target else 32 :: (x.target ++ 45 :: x.frm)
def nameT (x : LineL) : List UInt8 := ((findI (x.fn : Int) x.arg).getD irow0).name
def oneT (x : LineL) : List UInt8 := (if x.label.isEmpty then [] else x.label ++ [58, 32]) ++ (nameT x ++ tailT x)
/-- The text of lines. -/
def textT (ls : List LineL) : List UInt8 := ls.flatMap fun x => oneT x ++ [10]
/-- Behind a line's label: the line that a text might be. -/
def parseA (lab t : List UInt8) : LineL :=
  let y := (namedI (t.takeWhile (· != 32))).getD irow0
  match t.dropWhile (· != 32) with
  | [] => ⟨lab, y.fn, y.arg, [], []⟩
  | _ :: o => match Lib.parseIntB 32 o with
    | .ok v => ⟨lab, y.fn, v, [], []⟩
    | _ => ⟨lab, y.fn, y.arg, o.takeWhile (· != 45), (o.dropWhile (· != 45)).tail⟩
/-- The line that a text might be, as the program reads it. -/
def parseP (l : List UInt8) : LineL := if (Lib.cut l [58, 32]).2.2 then parseA (Lib.cut l [58, 32]).1 (Lib.cut l [58, 32]).2.1 else parseA [] l
def numR (l : List UInt8) : Int :=
  let n := (l.take 11).foldl (fun (n : Nat) (c : UInt8) => if 48 ≤ c.toNat ∧ c.toNat ≤ 57 then 10 * n + (c.toNat - 48) else n) 0
  wrap32 (if l.head? = some 45 then -(n : Int) else (n : Int))
def parseB (lab t : List UInt8) : LineL :=
  let y := (namedI (t.takeWhile (· != 32))).getD irow0
  match t.dropWhile (· != 32) with
  | [] => ⟨lab, y.fn, y.arg, [], []⟩
  | _ :: o => if (match o with | [] => false | c :: _ => c == 45 || (decide (48 ≤ c.toNat) && decide (c.toNat ≤ 57))) then ⟨lab, y.fn, numR o, [], []⟩
    else ⟨lab, y.fn, y.arg, o.takeWhile (· != 45), (o.dropWhile (· != 45)).tail⟩
/-- The line that a text might be, as the reference reads it. -/
def parseR (l : List UInt8) : LineL :=
  if (l.takeWhile (· != 58)).length + 1 < l.length then parseB (l.takeWhile (· != 58)) (l.drop ((l.takeWhile (· != 58)).length + 2)) else parseB [] l
end Go.Proofs.YtbefmlioampgcaaDoor

/- The code of expressions, and what lines do, in plain words. -/
namespace Go.Proofs.YtbefmlioampgcaaDoor
open Go.RowKit
set_option linter.unusedVariables false
set_option linter.unusedSimpArgs false

def lnF (f : Nat) (a : Int) : LineL := ⟨[], f, a, [], []⟩
def lnO (o : Int) : LineL := lnF 15 o
def lnJ (t : List UInt8) : LineL := ⟨[], 10, 0, t, []⟩
def stopT : List UInt8 := [115, 116, 111, 112]
/-- An operator with one part that never needs a second register. -/
def easyE (k o tk : Nat) : Bool := (k == 4 && (o == 25 || o == 26)) || (k == 6 && tk == 1)
mutual
/-- How many registers an expression needs. -/
def regsE : KE → Nat
  | ⟨k, o, tk, _, _, _, _, l⟩ => match l with
    | [] => 1
    | [a] => if easyE k o tk then regsE a else max (regsE a) 2
    | a :: b :: _ => if o ≠ 20 ∧ o ≠ 21 ∧ regsE a = regsE b then min (regsE a + 1) 3 else max (regsE a) (regsE b)
end
mutual
/-- How many temporaries. -/
def tempsE : KE → Nat
  | ⟨_, o, _, _, _, _, _, l⟩ => match l with
    | [] => 0
    | [a] => tempsE a
    | a :: b :: _ => if o ≠ 20 ∧ o ≠ 21 ∧ regsE a = 3 ∧ regsE b = 3 then max (tempsE b) (tempsE a + 1) else max (tempsE a) (tempsE b)
end
mutual
/-- Can it have no fault? -/
def safeE : KE → Bool
  | ⟨k, o, tk, _, _, _, _, l⟩ => match l with
    | [] => true
    | [a] => safeE a && (easyE k o tk || (k == 4 && o != 23))
    | a :: b :: _ => safeE a && safeE b && decide (6 ≤ o)
end
/-- The operation of an operator that is one. -/
def singleO (o : Nat) : Int := ([0, 5, 12, 83, 44, 31, 82, 4, 8, 70, 75, 51, 65, 64] : List Int).getD o 0
def operL (o : Nat) : List LineL :=
  if o = 15 then [lnO 4, lnF 12 0, lnF 12 0]
  else if o = 14 then [lnO 4, lnF 12 0]
  else if o = 22 then [lnO 4, lnF 4 0, lnO 9]
  else if o = 16 then [lnO 0, lnO 9]
  else if o = 17 then [lnO 9]
  else if o = 19 then [lnO 0, lnO 9, lnF 12 0]
  else if o = 18 then [lnO 9, lnF 12 0]
  else [lnO (singleO o)]
/-- Where an expression is compiled: how many elements a variable has, its offset, the label. -/
structure CEnv where
  dim : Int → Int
  off : Int → Int
  label : List UInt8
/-- What follows the code of the only part. -/
def afterL (env : CEnv) (k o tk : Nat) (v : Int) : List LineL :=
  if k = 3 then [lnF 4 (env.dim v), lnO 19, lnO 41, lnJ stopT, lnF 1 (env.off v), lnO 10, lnF 3 0]
  else if o = 23 then [lnF 4 0, lnO 0, lnO 12]
  else if o = 24 then [lnF 4 0, lnO 0, lnO 4]
  else if o = 25 then [lnO 50]
  else if o = 26 then [lnF 12 0]
  else if tk = 2 then [lnF 4 256, lnO 19]
  else if tk = 3 then [lnF 4 2, lnO 19]
  else []
def freshL (env : CEnv) (n : Nat) : List UInt8 := env.label ++ [46] ++ Lib.decDigits n
mutual
/-- The code of an expression with the first temporary t, behind n labels; and how many labels there are then. -/
def codeE (env : CEnv) : KE → Int → Nat → List LineL × Nat
  | ⟨k, o, tk, num, v, _, _, l⟩, t, n => match l with
    | [] => if k = 1 then ([lnF 4 num], n) else ([lnF 7 (env.off v)], n)
    | [a] => ((codeE env a t n).1 ++ afterL env k o tk v, (codeE env a t n).2)
    | a :: b :: _ =>
      if o = 20 ∨ o = 21 then
        let x := codeE env a t n
        let y := codeE env b t (x.2 + 1)
        if o = 21 then (x.1 ++ ([lnF 12 0] ++ ([lnJ (freshL env (x.2 + 1))] ++ (y.1 ++ [lnF 12 0, ⟨freshL env (x.2 + 1), 12, 0, [], []⟩]))), y.2)
        else (x.1 ++ ([lnJ (freshL env (x.2 + 1))] ++ (y.1 ++ [⟨freshL env (x.2 + 1), 8, 0, [], []⟩])), y.2)
      else if regsE a = 3 ∧ regsE b = 3 then
        let x := codeE env b t n
        let y := codeE env a (t + 1) x.2
        (x.1 ++ ([lnF 13 t] ++ (y.1 ++ ([lnF 7 t] ++ operL o))), y.2)
      else if regsE a < regsE b then
        let x := codeE env b t n
        let y := codeE env a t x.2
        (x.1 ++ (y.1 ++ ([lnO 0] ++ operL o)), y.2)
      else
        let x := codeE env a t n
        let y := codeE env b t x.2
        (x.1 ++ (y.1 ++ operL o), y.2)
end
end Go.Proofs.YtbefmlioampgcaaDoor

/- What lines of expressions' code do, in plain words: registers, a step, a run, and which lines are refused. -/
namespace Go.Proofs.YtbefmlioampgcaaDoor
open Go.RowKit
set_option linter.unusedVariables false
set_option linter.unusedSimpArgs false

/-- The three registers and the error flag. -/
structure RegL where
  a : Int
  b : Int
  c : Int
  e : Bool
def RegL.Ok (r : RegL) : Prop := is32 r.a ∧ is32 r.b ∧ is32 r.c
def RegL.push (r : RegL) (v : Int) : RegL := ⟨v, r.a, r.b, r.e⟩
def RegL.pop (r : RegL) : RegL := ⟨r.b, r.c, r.c, r.e⟩
def RegL.join (r : RegL) (p : Int × Bool) : RegL := ⟨p.1, r.c, r.c, r.e || p.2⟩
def truthL (b : Bool) : Int := if b then 1 else 0
/-- An operation that takes two words, x below y: its word, and whether it is over; none: no such operation. -/
def binO (op x y : Int) : Option (Int × Bool) :=
  if op = 5 then some (wrap32 (x + y), wrap32 (x + y) != x + y)
  else if op = 12 then some (wrap32 (x - y), wrap32 (x - y) != x - y)
  else if op = 83 then some (wrap32 (x * y), wrap32 (x * y) != x * y)
  else if op = 44 then some (if y = 0 ∨ (x = -2147483648 ∧ y = -1) then (0, true) else (x.tdiv y, false))
  else if op = 31 then some (if y = 0 then (0, true) else (x.tmod y, false))
  else if op = 82 then some (wrap32 (x + y), false)
  else if op = 4 then some (wrap32 (x - y), false)
  else if op = 8 then some (wrap32 (x * y), false)
  else if op = 70 then some (bits .and .i32 x y, false)
  else if op = 75 then some (bits .or .i32 x y, false)
  else if op = 51 then some (bits .xor .i32 x y, false)
  else if op = 65 then some (shlF x y, false)
  else if op = 64 then some (shrF x y, false)
  else if op = 9 then some (truthL (decide (y < x)), false)
  else if op = 19 then some (x, decide (u32 y ≤ u32 x))
  else if op = 10 then some (wrap32 (y + wrap32 (4 * x)), false)
  else none
/-- An operation. -/
def opR (r : RegL) (op : Int) : Option RegL :=
  if op = 0 then some ⟨r.b, r.a, r.c, r.e⟩
  else if op = 50 then some ⟨-1 - r.a, r.b, r.c, r.e⟩
  else if op = 41 then some ⟨truthL (!r.e), r.a, r.b, false⟩
  else (binO op r.b r.a).map r.join
/-- What a line does. -/
inductive OutL where
  | go (r : RegL) (m : List Int)
  | jump (t : List UInt8)
  | halt (v : Int × Bool × Int)
/-- Which word a line with an access means. -/
def wordK (x : LineL) (r : RegL) : Int := if x.fn = 3 then wrap32 (r.a + wrap32 (4 * x.arg)) / 4 else x.arg
def plainO (x : LineL) (r : RegL) : RegL :=
  if x.fn = 4 then r.push x.arg
  else if x.fn = 1 then r.push (wrap32 (4 * x.arg))
  else if x.fn = 8 then ⟨wrap32 (r.a + x.arg), r.b, r.c, r.e || (wrap32 (r.a + x.arg) != r.a + x.arg)⟩
  else if x.fn = 12 then ⟨truthL (r.a == x.arg), r.b, r.c, r.e⟩
  else (opR r x.arg).getD r
def accessB (x : LineL) : Bool := x.fn == 7 || x.fn == 13 || x.fn == 3
def moveO (x : LineL) (r : RegL) (m : List Int) : Option (RegL × List Int) :=
  if wordK x r < 0 ∨ (m.length : Int) ≤ wordK x r then none
  else if x.fn = 7 then some (r.push (m.getD (wordK x r).toNat 0), m)
  else if x.fn = 3 then some (⟨m.getD (wordK x r).toNat 0, r.b, r.c, r.e⟩, m)
  else some (r.pop, m.set (wordK x r).toNat r.a)
def stepO (x : LineL) (r : RegL) (m : List Int) : OutL :=
  if x.fn = 10 then if r.a ≠ 0 then .go r.pop m else if x.target = stopT then .halt (0, true, 0) else .jump x.target
  else if accessB x then match moveO x r m with
    | none => .halt (0, false, 4)
    | some (r', m') => .go r' m'
  else .go (plainO x r) m
/-- A run of the lines that are left; sk: up to the line with this label they are passed over. -/
def runS : List LineL → Option (List UInt8) → RegL → List Int → Int × Bool × Int
  | [], _, r, _ => if r.e then (0, true, 0) else (r.a, false, 0)
  | x :: l, sk, r, m => if sk.any (fun t => x.label != t) then runS l sk r m else match stepO x r m with
    | .go r' m' => runS l none r' m'
    | .jump t => runS l (some t) r m
    | .halt v => v
/-- The functions and operations that are run. -/
def knownB (op : Int) : Bool := (opR ⟨0, 0, 0, false⟩ op).isSome
def runsB (x : LineL) : Bool :=
  x.frm.isEmpty && (!x.target.isEmpty == (x.fn == 10)) && (x.target.isEmpty || x.arg == 0) &&
    (x.fn == 4 || x.fn == 8 || x.fn == 12 || x.fn == 1 || x.fn == 7 || x.fn == 13 || x.fn == 3 || x.fn == 10 || (x.fn == 15 && knownB x.arg))
/-- A line's labels are right: its own is its own alone, and its target's line comes later. -/
def okR (ls : List LineL) (i : Nat) (x : LineL) : Bool :=
  (x.label.isEmpty || atL ls x.label == some i) && (x.target.isEmpty || x.target == stopT || (match atL ls x.target with | some j => decide (i < j) | none => false))
/-- The error of lines: 0, 2 or 60. -/
def faultE (ls : List LineL) : Int := if ls.all runsB then (if (ls.zipIdx.all fun p => okR ls p.2 p.1) then 0 else 60) else 2
/-- What a run answers. -/
def runQ (ls : List LineL) (ws : List Int) : Int × Bool × Int :=
  if 4096 < ls.length ∨ 65536 < ws.length then (0, false, 3)
  else if faultE ls ≠ 0 then (0, false, faultE ls)
  else runS ls none ⟨0, 0, 0, false⟩ ws
theorem known_of (r : RegL) (op : Int) : (opR r op).isSome = knownB op := by
  unfold knownB opR
  by_cases h0 : op = 0
  · simp [h0]
  by_cases h1 : op = 50
  · simp [h1]
  by_cases h2 : op = 41
  · simp [h2]
  simp only [if_neg h0, if_neg h1, if_neg h2, Option.isSome_map]
  unfold binO
  simp only [apply_ite Option.isSome, Option.isSome_some, Option.isSome_none]
theorem runS_skip : ∀ (l : List LineL) (j : Nat) (t : List UInt8) (r : RegL) (m : List Int) (y : LineL), l[j]? = some y → y.label = t → (∀ k x, k < j → l[k]? = some x → x.label ≠ t) → runS l (some t) r m = runS (l.drop j) none r m
  | [], j, t, r, m, y, h, _, _ => by simp at h
  | x :: l, 0, t, r, m, y, h, hy, _ => by
    simp at h
    subst h
    rw [List.drop_zero, runS, runS]
    simp [hy]
  | x :: l, j + 1, t, r, m, y, h, hy, hn => by
    rw [List.drop_succ_cons, runS]
    have h0 := hn 0 x (by omega) rfl
    simp [h0]
    exact runS_skip l j t r m y (by simpa using h) hy (fun k z hk hz => hn (k + 1) z (by omega) (by simpa using hz))
theorem truthL_is (b : Bool) : is32 (truthL b) := by cases b <;> simp [truthL, is32]
theorem is32_0 : is32 0 := by unfold is32; omega
theorem tdiv_is {x y : Int} (hx : is32 x) (hy : is32 y) (h : ¬ (y = 0 ∨ (x = -2147483648 ∧ y = -1))) : is32 (x.tdiv y) := by
  have hb := quoA_bounds x y hx
  have h1 : x.tdiv y = quoA x y := by rw [tdiv_abs]; rfl
  rw [h1]
  refine ⟨hb.2.1, ?_⟩
  rcases Int.lt_or_le 2147483647 (quoA x y) with hlt | hle
  · exfalso
    apply h
    have h3 : x.natAbs / y.natAbs ≤ x.natAbs := Nat.div_le_self _ _
    have h4 : 1 < y.natAbs → x.natAbs / y.natAbs ≤ x.natAbs / 2 := fun h => Nat.div_le_div_left h (by decide)
    unfold quoA at hlt
    unfold is32 at hx hy
    generalize x.natAbs / y.natAbs = q at *
    split at hlt
    · rename_i hs
      have hs' := propext_iff.1 hs
      omega
    · omega
  · exact hle
theorem tmod_is {x y : Int} (hx : is32 x) : is32 (x.tmod y) := by
  rw [tmod_abs]
  have := Nat.mod_le x.natAbs y.natAbs
  unfold is32 at *
  split <;> omega
end Go.Proofs.YtbefmlioampgcaaDoor

/- The evaluation stack, walked in the program: push, pop, truth. -/
namespace Go.Proofs.YtbefmlioampgcaaDoor
open Go.RowKit
set_option linter.unusedVariables false
set_option linter.unusedSimpArgs false

def RegL.cells (r : RegL) : Array Value := #[.int .i32 r.a, .int .i32 r.b, .int .i32 r.c, .bool r.e]
/-- The registers in block s are now r; nothing else that was there has turned. -/
def RetR (v : Value) (r : RegL) (s : Nat) (w : World) (e : Ending) (w' : World) : Prop := e = .returned v ∧ UpdB s w w' ∧ Blk w' s 68 r.cells
theorem wTruth (b : Bool) (w : World) : Calls Tryd.prog 48 #[.bool b] w (RetQ (.int .i32 (truthL b)) w) := by
  cases b
  all_goals
    go_enter Tryd.func48, Tryd.ntmps48
    go_wp2
    go_ret
    exact ⟨rfl, rfl⟩
theorem UpdB.drew {g : Nat} {w w' : World} (h : UpdB g w w') : UpdB g w w'.drew := ⟨h.os, h.tape, h.output, h.size, h.block⟩
theorem UpdB.set1 {g o : Nat} {u : Value} {w w' : World} (h : UpdB g w w') : UpdB g w (w'.setCell ⟨g, o, none⟩ u) := h.trans (UpdB.set _ _ _)
set_option maxRecDepth 100000 in
theorem wPush (r : RegL) (v : Int) (s : Nat) (w : World) (hs : Blk w s 68 r.cells) :
    Calls Tryd.prog 46 #[.pointer (some ⟨s, 0, none⟩), .int .i32 v] w (RetR (.tuple #[]) (r.push v) s w) := by
  have HS := Lib.hid hs
  simp only [RegL.cells] at hs
  have c0 := hs.cell 0
  have c1 := hs.cell 1
  have c2 := hs.cell 2
  have c3 := hs.cell 3
  simp at c0 c1 c2 c3
  have f0 := hs.frozen 0
  have f1 := hs.frozen 1
  have f2 := hs.frozen 2
  have f3 := hs.frozen 3
  have hlt := hs.lt
  clear hs
  go_enter Tryd.func46, Tryd.ntmps46
  go_region
  go_end0
  exact ⟨rfl, (((UpdB.refl s w).set1).set1).set1.drew, ((((HS.out.set_ 0 _).set_ 1 _).set_ 2 _).drew)⟩
set_option maxRecDepth 100000 in
theorem wPop (r : RegL) (s : Nat) (w : World) (hs : Blk w s 68 r.cells) :
    Calls Tryd.prog 21 #[.pointer (some ⟨s, 0, none⟩)] w (RetR (.tuple #[]) r.pop s w) := by
  have HS := Lib.hid hs
  simp only [RegL.cells] at hs
  have c0 := hs.cell 0
  have c1 := hs.cell 1
  have c2 := hs.cell 2
  have c3 := hs.cell 3
  simp at c0 c1 c2 c3
  have f0 := hs.frozen 0
  have f1 := hs.frozen 1
  have f2 := hs.frozen 2
  have f3 := hs.frozen 3
  have hlt := hs.lt
  clear hs
  go_enter Tryd.func21, Tryd.ntmps21
  go_region
  go_end0
  exact ⟨rfl, ((UpdB.refl s w).set1).set1.drew, (((HS.out.set_ 0 _).set_ 1 _).drew)⟩
end Go.Proofs.YtbefmlioampgcaaDoor
