/- Texts that belong together, joined: what each one holds is told ahead of it. -/
import Derived.Test.YtljeecocbcffcaaDoorHK1
import Derived.Laws.BitsLemmas
import Derived.Test.YtljeecocbcffcaaDoorHK5
import Derived.Test.YtljeecocbcffcaaDoorHK6
import Derived.Laws.OwnMore
import Derived.Test.YtljeecocbcffcaaDoorHK8
/- The loader's commands in plain words: which are valid, their bytes, and how bytes are read. -/
namespace Go.Proofs.YtljeecocbcffcaaDoor

structure CmdL where
  kind : Nat
  at_ : Int
  dst : Int
  bytes : List UInt8
deriving DecidableEq
def word32 (a : Int) : Prop := -2147483648 ≤ a ∧ a ≤ 2147483647
def COk (c : CmdL) : Prop := c.kind ≤ 255 ∧ word32 c.at_ ∧ word32 c.dst
/-- A word's bytes, the least significant one first. -/
def wordN (u : Nat) : List UInt8 := [UInt8.ofNat (u % 256), UInt8.ofNat (u / 256 % 256), UInt8.ofNat (u / 65536 % 256), UInt8.ofNat (u / 16777216 % 256)]
def wordI (v : Int) : List UInt8 := wordN (v % 4294967296).toNat
def linkB (a : Int) : Bool := a == -2147483648 || a == -2147483644 || a == -2147483640 || a == -2147483636
def mayC (c : CmdL) : Bool :=
  if c.kind = 0 then decide (c.at_ % 4 = 0) && decide (c.bytes.length = 0)
  else if c.kind = 1 then c.dst == 0 && decide (c.bytes.length ≤ 65536)
  else if c.kind = 2 then linkB c.at_ && (c.dst == 0 && decide (c.bytes.length ≤ 64))
  else false
def oneC (c : CmdL) : List UInt8 := wordI c.kind ++ (wordI c.at_ ++ ((if c.kind = 0 then wordI c.dst else wordI c.bytes.length) ++ c.bytes))
def putC (l : List CmdL) : List UInt8 := l.flatMap oneC
def sizeC (l : List CmdL) : Nat := l.foldl (fun n c => n + (12 + c.bytes.length)) 0
/-- The error of commands. -/
def errC (l : List CmdL) : Int := if l.all mayC then (if sizeC l ≤ 1048576 then 0 else 3) else 2
/-- The word that four bytes are. -/
def numW (b : List UInt8) : Nat := (b.getD 0 0).toNat + 256 * (b.getD 1 0).toNat + 65536 * (b.getD 2 0).toNat + 16777216 * (b.getD 3 0).toNat
def sgn (n : Nat) : Int := if n < 2147483648 then (n : Int) else (n : Int) - 4294967296
/-- The command with which bytes begin, and how many bytes it takes. -/
def headC (b : List UInt8) : Option (CmdL × Nat) :=
  if b.length < 12 then none
  else if numW b = 0 then
    (if mayC ⟨0, sgn (numW (b.drop 4)), sgn (numW (b.drop 8)), []⟩ then some (⟨0, sgn (numW (b.drop 4)), sgn (numW (b.drop 8)), []⟩, 12) else none)
  else if 2 < numW b then none
  else if b.length - 12 < numW (b.drop 8) then none
  else if mayC ⟨numW b, sgn (numW (b.drop 4)), 0, (b.drop 12).take (numW (b.drop 8))⟩ then some (⟨numW b, sgn (numW (b.drop 4)), 0, (b.drop 12).take (numW (b.drop 8))⟩, 12 + numW (b.drop 8)) else none
/-- The commands with which bytes begin, up to the first one that runs a program, and what is left. -/
def getC : Nat → List UInt8 → Option (List CmdL × List UInt8)
  | 0, _ => none
  | f + 1, b => match headC b with
    | none => none
    | some (c, n) => if c.kind = 0 then some ([c], b.drop n) else (getC f (b.drop n)).map fun p => (c :: p.1, p.2)

theorem oneC_len (c : CmdL) : (oneC c).length = 12 + c.bytes.length := by
  unfold oneC
  split <;> simp [wordI, wordN] <;> omega
theorem sizeC_eq : ∀ (l : List CmdL) (n : Nat), l.foldl (fun n c => n + (12 + c.bytes.length)) n = n + (putC l).length
  | [], n => by simp [putC]
  | c :: r, n => by
    rw [List.foldl_cons, sizeC_eq r]
    simp only [putC, List.flatMap_cons, List.length_append, oneC_len]
    omega
theorem sizeC_len (l : List CmdL) : sizeC l = (putC l).length := by rw [sizeC, sizeC_eq]; omega
theorem byteN (u : Nat) : (UInt8.ofNat (u % 256)).toNat = u % 256 := by rw [UInt8.toNat_ofNat']; omega
theorem numW_word (u : Nat) (hu : u < 4294967296) (r : List UInt8) : numW (wordN u ++ r) = u := by
  simp only [numW, wordN, List.cons_append, List.getD_cons_zero, List.getD_cons_succ, byteN]
  omega
theorem sgn_mod (v : Int) (h : word32 v) : sgn (v % 4294967296).toNat = v := by
  unfold word32 at h
  unfold sgn
  split <;> omega
theorem mod_lt (v : Int) : (v % 4294967296).toNat < 4294967296 := by omega
theorem sgn_back (n : Nat) (h : n < 4294967296) : (sgn n % 4294967296).toNat = n := by
  unfold sgn
  split <;> omega
theorem sgn_word (n : Nat) (h : n < 4294967296) : word32 (sgn n) := by
  unfold sgn word32
  split <;> omega
theorem wordI_len (v : Int) : (wordI v).length = 4 := rfl
theorem oneC_drop4 (c : CmdL) (r : List UInt8) : (oneC c ++ r).drop 4 = wordI c.at_ ++ ((if c.kind = 0 then wordI c.dst else wordI c.bytes.length) ++ c.bytes) ++ r := by
  unfold oneC
  simp [wordI, wordN]
theorem oneC_drop8 (c : CmdL) (r : List UInt8) : (oneC c ++ r).drop 8 = (if c.kind = 0 then wordI c.dst else wordI c.bytes.length) ++ (c.bytes ++ r) := by
  unfold oneC
  simp [wordI, wordN]
theorem oneC_drop12 (c : CmdL) (r : List UInt8) : (oneC c ++ r).drop 12 = c.bytes ++ r := by
  unfold oneC
  by_cases h : c.kind = 0
  · simp [h, wordI, wordN]
  · simp [h, wordI, wordN]
theorem mayC_len {c : CmdL} (h : mayC c = true) : c.bytes.length ≤ 65536 := by
  unfold mayC at h
  split at h
  · simp at h; rw [h.2]; simp
  · split at h
    · simp at h; exact h.2
    · split at h
      · simp at h; omega
      · simp at h
theorem mayC_kind {c : CmdL} (h : mayC c = true) : c.kind ≤ 2 := by
  unfold mayC at h
  split at h
  · omega
  · split at h
    · omega
    · split at h
      · omega
      · simp at h
theorem mayC_dst {c : CmdL} (h : mayC c = true) (hk : c.kind ≠ 0) : c.dst = 0 := by
  unfold mayC at h
  rw [if_neg hk] at h
  split at h
  · simp at h; exact h.1
  · split at h
    · simp at h; exact h.2.1
    · simp at h
theorem mayC_none {c : CmdL} (h : mayC c = true) (hk : c.kind = 0) : c.bytes = [] := by
  unfold mayC at h
  rw [if_pos hk] at h
  simp at h
  exact h.2
theorem oneC_num {c : CmdL} (h : c.kind ≤ 255) (r : List UInt8) : numW (oneC c ++ r) = c.kind := by
  have : numW (wordN ((c.kind : Int) % 4294967296).toNat ++ (wordI c.at_ ++ ((if c.kind = 0 then wordI c.dst else wordI c.bytes.length) ++ c.bytes) ++ r)) = ((c.kind : Int) % 4294967296).toNat := numW_word _ (by omega) _
  unfold oneC
  rw [List.append_assoc]
  rw [show wordI (c.kind : Int) = wordN ((c.kind : Int) % 4294967296).toNat from rfl, this]
  omega
theorem oneC_num4 (c : CmdL) (h : word32 c.at_) (r : List UInt8) : sgn (numW ((oneC c ++ r).drop 4)) = c.at_ := by
  rw [oneC_drop4, List.append_assoc, show wordI c.at_ = wordN (c.at_ % 4294967296).toNat from rfl, numW_word _ (mod_lt _), sgn_mod _ h]
/-- A command's bytes are read as that command, whatever follows. -/
theorem headC_one (c : CmdL) (hok : COk c) (h : mayC c = true) (r : List UInt8) : headC (oneC c ++ r) = some (c, (oneC c).length) := by
  have hl := oneC_len c
  have hb := mayC_len h
  obtain ⟨h1, h2, h3⟩ := hok
  unfold headC
  rw [if_neg (by rw [List.length_append, hl]; omega), oneC_num h1, oneC_num4 c h2]
  by_cases hk : c.kind = 0
  · rw [if_pos hk]
    have hn := mayC_none h hk
    have e8 : sgn (numW ((oneC c ++ r).drop 8)) = c.dst := by
      rw [oneC_drop8, if_pos hk, show wordI c.dst = wordN (c.dst % 4294967296).toNat from rfl, numW_word _ (mod_lt _), sgn_mod _ h3]
    rw [e8]
    have ec : (⟨0, c.at_, c.dst, []⟩ : CmdL) = c := by
      cases c; simp_all
    rw [ec, if_pos h, hl, hn]; rfl
  · rw [if_neg hk, if_neg (by have := mayC_kind h; omega)]
    have e8 : numW ((oneC c ++ r).drop 8) = c.bytes.length := by
      rw [oneC_drop8, if_neg hk, show wordI (c.bytes.length : Int) = wordN ((c.bytes.length : Int) % 4294967296).toNat from rfl, numW_word _ (mod_lt _)]
      omega
    rw [e8, oneC_drop12, if_neg (by rw [List.length_append, hl]; omega), List.take_left]
    have ec : (⟨c.kind, c.at_, 0, c.bytes⟩ : CmdL) = c := by
      have := mayC_dst h hk
      cases c; simp_all
    rw [ec, if_pos h, hl]
/-- Commands, of which the last one alone runs a program. -/
inductive Runs : List CmdL → Prop
  | one (c) : c.kind = 0 → Runs [c]
  | cons (c l) : c.kind ≠ 0 → Runs l → Runs (c :: l)
theorem getC_put {l : List CmdL} (hr : Runs l) (more : List UInt8) : ∀ f, l.length ≤ f → (∀ c ∈ l, COk c) → (∀ c ∈ l, mayC c = true) → getC f (putC l ++ more) = some (l, more) := by
  induction hr with
  | one c hk =>
    intro f hf hok h
    match f, hf with
    | f + 1, _ =>
      have e : putC [c] ++ more = oneC c ++ more := by simp [putC]
      rw [e, getC, headC_one c (hok c (by simp)) (h c (by simp))]
      simp only [hk, if_true]
      rw [List.drop_left]
  | cons c l hk _ ih =>
    intro f hf hok h
    match f, hf with
    | f + 1, hf =>
      have e : putC (c :: l) ++ more = oneC c ++ (putC l ++ more) := by simp [putC]
      rw [e, getC, headC_one c (hok c (by simp)) (h c (by simp))]
      simp only [hk, if_false]
      rw [List.drop_left, ih f (by simpa using hf) (fun x hx => hok x (by simp [hx])) (fun x hx => h x (by simp [hx]))]
      rfl
theorem getC_short {b : List UInt8} (h : b.length < 12) : ∀ f, getC f b = none := by
  intro f
  cases f with
  | zero => rfl
  | succ f => rw [getC]; unfold headC; rw [if_pos h]
/-- Commands that are cut off are none. -/
theorem getC_cut {l : List CmdL} (hr : Runs l) : ∀ (f cut : Nat), (∀ c ∈ l, COk c) → (∀ c ∈ l, mayC c = true) → cut < (putC l).length → getC f ((putC l).take cut) = none := by
  induction hr with
  | one c hk =>
    intro f cut hok h hc
    have hn := mayC_none (h c (by simp)) hk
    have e : putC [c] = oneC c := by simp [putC]
    rw [e, oneC_len, hn] at hc
    apply getC_short
    rw [List.length_take]
    simp at hc
    omega
  | cons c l hk _ ih =>
    intro f cut hok h hc
    have e : putC (c :: l) = oneC c ++ putC l := by simp [putC]
    rw [e] at hc ⊢
    have hl := oneC_len c
    have hm := h c (by simp)
    by_cases h12 : cut < 12
    · exact getC_short (by rw [List.length_take]; omega) f
    · cases f with
      | zero => rfl
      | succ f =>
        by_cases hin : cut < (oneC c).length
        · have ht : (oneC c ++ putC l).take cut = (oneC c).take cut := List.take_append_of_le_length (by omega)
          obtain ⟨a, b, d, q, e0⟩ : ∃ a b d q, oneC c = a ++ (b ++ (d ++ q)) ∧ a = wordI c.kind ∧ b = wordI c.at_ ∧ d = wordI c.bytes.length ∧ q = c.bytes := ⟨_, _, _, _, by unfold oneC; rw [if_neg hk], rfl, rfl, rfl, rfl⟩
          obtain ⟨e1, ea, eb, ed, eq⟩ := e0
          have htk : (oneC c).take cut = wordI c.kind ++ (wordI c.at_ ++ (wordI c.bytes.length ++ c.bytes.take (cut - 12))) := by
            rw [e1, ea, eb, ed, eq]
            rw [List.take_append, List.take_append, List.take_append, wordI_len, wordI_len, wordI_len]
            rw [List.take_of_length_le (by rw [wordI_len]; omega), List.take_of_length_le (by rw [wordI_len]; omega), List.take_of_length_le (by rw [wordI_len]; omega)]
            rw [show cut - 4 - 4 - 4 = cut - 12 by omega]
          have hb := mayC_len hm
          have hkk := mayC_kind hm
          have hln : ((oneC c).take cut).length = cut := by rw [List.length_take]; omega
          have n0 : numW ((oneC c).take cut) = c.kind := by
            rw [htk, show wordI (c.kind : Int) = wordN ((c.kind : Int) % 4294967296).toNat from rfl, numW_word _ (mod_lt _)]
            omega
          have n8 : numW (((oneC c).take cut).drop 8) = c.bytes.length := by
            rw [htk]
            rw [show (wordI c.kind ++ (wordI c.at_ ++ (wordI c.bytes.length ++ c.bytes.take (cut - 12)))).drop 8 = wordI c.bytes.length ++ c.bytes.take (cut - 12) by simp [wordI, wordN]]
            rw [show wordI (c.bytes.length : Int) = wordN ((c.bytes.length : Int) % 4294967296).toNat from rfl, numW_word _ (mod_lt _)]
            omega
          rw [ht, getC]
          unfold headC
          rw [hln, if_neg (by omega), n0, if_neg hk, if_neg (by omega), n8, if_pos (by omega)]
        · have ht : (oneC c ++ putC l).take cut = oneC c ++ (putC l).take (cut - (oneC c).length) := by
            rw [List.take_append, List.take_of_length_le (by omega)]
          rw [ht, getC, headC_one c (hok c (by simp)) hm]
          simp only [hk, if_false]
          rw [List.drop_left, ih f _ (fun x hx => hok x (by simp [hx])) (fun x hx => h x (by simp [hx])) (by rw [List.length_append] at hc; omega)]
          rfl
theorem getD_lt (b : List UInt8) (i : Nat) : (b.getD i 0).toNat < 256 := UInt8.toNat_lt_size _
theorem numW_lt (b : List UInt8) : numW b < 4294967296 := by
  have h0 := getD_lt b 0
  have h1 := getD_lt b 1
  have h2 := getD_lt b 2
  have h3 := getD_lt b 3
  unfold numW
  omega
/-- Four bytes are those of their word. -/
theorem word_num {b : List UInt8} (h : 4 ≤ b.length) : wordN (numW b) = b.take 4 := by
  match b, h with
  | x0 :: x1 :: x2 :: x3 :: r, _ =>
    have h0 := x0.toNat_lt_size
    have h1 := x1.toNat_lt_size
    have h2 := x2.toNat_lt_size
    have h3 := x3.toNat_lt_size
    have g : ∀ (n : Nat) (x : UInt8), n = x.toNat → UInt8.ofNat n = x := fun n x e => by rw [e]; simp
    simp only [numW, wordN, List.getD_cons_zero, List.getD_cons_succ, List.take_succ_cons, List.take_zero]
    have z0 : UInt8.size = 256 := rfl
    rw [g _ x0 (by omega), g _ x1 (by omega), g _ x2 (by omega), g _ x3 (by omega)]
theorem wordI_sgn {b : List UInt8} (h : 4 ≤ b.length) : wordI (sgn (numW b)) = b.take 4 := by
  unfold wordI
  rw [sgn_back _ (numW_lt b), word_num h]
theorem take44 (b : List UInt8) (k : Nat) : (b.drop k).take 4 ++ b.drop (k + 4) = b.drop k := by
  rw [show b.drop (k + 4) = (b.drop k).drop 4 by rw [List.drop_drop], List.take_append_drop]
theorem headC_back {b : List UInt8} {c : CmdL} {n : Nat} (h : headC b = some (c, n)) : oneC c ++ b.drop n = b ∧ mayC c = true ∧ COk c ∧ n = (oneC c).length ∧ 12 ≤ n ∧ n ≤ b.length := by
  unfold headC at h
  split at h
  · cases h
  · rename_i hl
    split at h
    · rename_i hk
      split at h
      · rename_i hm
        injection h with h; injection h with h1 h2; subst h1 h2
        have e : oneC ⟨0, sgn (numW (b.drop 4)), sgn (numW (b.drop 8)), []⟩ = b.take 4 ++ ((b.drop 4).take 4 ++ (b.drop 8).take 4) := by
          unfold oneC
          simp only [if_true, List.append_nil]
          rw [wordI_sgn (by rw [List.length_drop]; omega), wordI_sgn (by rw [List.length_drop]; omega), ← word_num (b := b) (by omega), hk]
          rfl
        refine ⟨?_, hm, ⟨by simp, sgn_word _ (numW_lt _), sgn_word _ (numW_lt _)⟩, by rw [oneC_len]; rfl, Nat.le_refl _, by omega⟩
        rw [e, List.append_assoc, List.append_assoc, take44 b 8, take44 b 4, List.take_append_drop]
      · cases h
    · rename_i hk
      split at h
      · cases h
      · rename_i hk2
        split at h
        · cases h
        · rename_i hn
          split at h
          · rename_i hm
            injection h with h; injection h with h1 h2; subst h1 h2
            have hlen : ((b.drop 12).take (numW (b.drop 8))).length = numW (b.drop 8) := by
              rw [List.length_take, List.length_drop]; omega
            have e : oneC ⟨numW b, sgn (numW (b.drop 4)), 0, (b.drop 12).take (numW (b.drop 8))⟩ = b.take 4 ++ ((b.drop 4).take 4 ++ ((b.drop 8).take 4 ++ (b.drop 12).take (numW (b.drop 8)))) := by
              unfold oneC
              simp only [hk, if_false]
              rw [hlen, wordI_sgn (by rw [List.length_drop]; omega)]
              have g : ∀ x : List UInt8, 4 ≤ x.length → wordI (numW x : Int) = x.take 4 := by
                intro x hx
                unfold wordI
                rw [show ((numW x : Int) % 4294967296).toNat = numW x by have := numW_lt x; omega, word_num hx]
              rw [g b (by omega), g (b.drop 8) (by rw [List.length_drop]; omega)]
            refine ⟨?_, hm, ⟨by simp only; omega, sgn_word _ (numW_lt _), by simp [word32]⟩, by rw [oneC_len, hlen], by omega, by omega⟩
            rw [e, List.append_assoc, List.append_assoc, List.append_assoc]
            rw [show b.drop (12 + numW (b.drop 8)) = (b.drop 12).drop (numW (b.drop 8)) by rw [List.drop_drop], List.take_append_drop, take44 b 8, take44 b 4, List.take_append_drop]
          · cases h
/-- What is read is what was written. -/
theorem getC_back : ∀ (f : Nat) (b : List UInt8) (l : List CmdL) (r : List UInt8), getC f b = some (l, r) → putC l ++ r = b ∧ (∀ c ∈ l, mayC c = true ∧ COk c)
  | 0, _, _, _, h => by cases h
  | f + 1, b, l, r, h => by
    rw [getC] at h
    cases hd : headC b with
    | none => rw [hd] at h; cases h
    | some p =>
      obtain ⟨c, n⟩ := p
      rw [hd] at h
      simp only at h
      obtain ⟨h1, h2, h3, -⟩ := headC_back hd
      split at h
      · injection h with h; injection h with e1 e2; subst e1 e2
        refine ⟨by simpa [putC] using h1, fun x hx => ?_⟩
        rw [List.mem_singleton.1 hx]; exact ⟨h2, h3⟩
      · obtain ⟨p, hp, e⟩ := Option.map_eq_some_iff.1 h
        injection e with e1 e2; subst e1 e2
        obtain ⟨i1, i2⟩ := getC_back f _ _ _ hp
        refine ⟨?_, fun x hx => ?_⟩
        · rw [show putC (c :: p.1) = oneC c ++ putC p.1 by simp [putC], List.append_assoc, i1, h1]
        · rcases List.mem_cons.1 hx with rfl | hx
          · exact ⟨h2, h3⟩
          · exact i2 x hx
theorem getC_more : ∀ (f g : Nat) (b : List UInt8), b.length ≤ f → f ≤ g → getC g b = getC f b
  | 0, g, b, h, _ => by
    rw [getC_short (by omega), getC_short (by omega)]
  | f + 1, g, b, h, hg => by
    match g, hg with
    | g + 1, hg =>
      rw [getC, getC]
      cases hd : headC b with
      | none => rfl
      | some p =>
        obtain ⟨c, n⟩ := p
        obtain ⟨-, -, -, -, h12, hn⟩ := headC_back hd
        simp only
        split
        · rfl
        · rw [getC_more f g _ (by rw [List.length_drop]; omega) (by omega)]
end Go.Proofs.YtljeecocbcffcaaDoor

/- May of the loader and of the reference, walked. -/
namespace Go.Proofs.YtljeecocbcffcaaDoor
open Go.RowKit
set_option linter.unusedSimpArgs false
set_option linter.unusedVariables false

def cmdC (k : Nat) (at_ dst : Int) (A : Option Addr) (n c : Nat) : Array Value := #[.int .u8 k, .int .i32 at_, .int .i32 dst, .slice A n c]
/-- Which commands are valid, by their numbers alone. -/
def mayN (k : Nat) (at_ dst : Int) (n : Nat) : Bool :=
  if k = 0 then decide (at_ % 4 = 0) && decide (n = 0)
  else if k = 1 then dst == 0 && decide (n ≤ 65536)
  else if k = 2 then linkB at_ && (dst == 0 && decide (n ≤ 64))
  else false
theorem mayC_eq (c : CmdL) : mayC c = mayN c.kind c.at_ c.dst c.bytes.length := rfl
theorem i32_and3 (n : Int) : bits .and .i32 n 3 = n % 4 := by
  have h15 : (BitVec.ofInt 32 3).toNat = 2 ^ 2 - 1 := by decide
  have key : (BitVec.ofInt 32 n &&& BitVec.ofInt 32 3).toNat = (n % ((2 ^ 32 : Nat) : Int)).toNat % 2 ^ 2 := by
    rw [BitVec.toNat_and, BitVec.toNat_ofInt, h15, Nat.and_two_pow_sub_one_eq_mod]
  show IntKind.i32.wrap ((BitVec.ofInt 32 n &&& BitVec.ofInt 32 3).toNat : Nat) = n % 4
  rw [key, IntKind.wrap_i32]
  omega
set_option maxRecDepth 100000 in
set_option maxHeartbeats 2000000 in
theorem lMay (k : Nat) (at_ dst : Int) (A : Option Addr) (n c : Nat) (hk : k ≤ 255) (ha : word32 at_) (w : World) :
    Calls Tryd.prog 17 #[.agg (cmdC k at_ dst A n c)] w (RetV (.bool (mayN k at_ dst n)) w) := by
  unfold word32 at ha
  have k0 : Below w.heap.size w (w.alloc (.cells (cmdC k at_ dst A n c) 38)) := (Below.refl _ _).alloc (Nat.le_refl _) _
  have b0 := Blk.new w 38 (cmdC k at_ dst A n c)
  have a3 := i32_and3 at_
  simp only [cmdC] at k0 b0 ⊢
  go_enter Tryd.func17, Tryd.ntmps17
  go_upto_region 1 with (fail)
  have c00 := b0.cell 0
  have c01 := b0.cell 1
  have c02 := b0.cell 2
  have c03 := b0.cell 3
  simp at c00 c01 c02 c03
  by_cases h0 : k = 0
  · subst h0
    cases h4 : (at_ % 4 == 0) with
    | false =>
      go_wp2
      go_ret
      exact ⟨by simp at h4; simp [mayN, h4], k0⟩
    | true =>
      have h4' : at_ % 4 = 0 := by simpa using h4
      go_wp2
      go_ret
      exact ⟨by simp [mayN, h4']; rw [Bool.eq_iff_iff]; simp, k0⟩
  · have e0 : ((k : Int) == 0) = false := by simp; omega
    by_cases h1 : k = 1
    · subst h1
      cases h4 : (dst == 0) with
      | false =>
        go_wp2
        go_ret
        exact ⟨by simp [mayN, h4], k0⟩
      | true =>
        go_wp2
        go_ret
        exact ⟨by simp [mayN, h4]; try omega, k0⟩
    · have e1 : ((k : Int) == 1) = false := by simp; omega
      by_cases h2 : k = 2
      · subst h2
        have hw : wrap32 (at_ + 2147483648) % 4294967296 = at_ + 2147483648 := by unfold wrap32; omega
        have hlk : linkB at_ = (decide (at_ + 2147483648 < 16) && decide (at_ % 4 = 0)) := by
          unfold linkB
          rw [Bool.eq_iff_iff]
          simp only [Bool.or_eq_true, beq_iff_eq, Bool.and_eq_true, decide_eq_true_eq]
          omega
        have hfin : mayN 2 at_ dst n = (decide (at_ + 2147483648 < 16) && decide (at_ % 4 = 0) && ((dst == 0) && decide (n ≤ 64))) := by
          simp [mayN, hlk]
        by_cases h16 : at_ + 2147483648 < 16
        · have h16' : wrap32 (at_ + 2147483648) % 4294967296 < 16 := by omega
          cases h4 : (at_ % 4 == 0) with
          | false =>
            have h4' : ¬ at_ % 4 = 0 := by simpa using h4
            go_wp2
            go_ret
            exact ⟨by rw [hfin, decide_eq_false h4']; simp, k0⟩
          | true =>
            have h4' : at_ % 4 = 0 := by simpa using h4
            cases h5 : (dst == 0) with
            | false =>
              go_wp2
              go_ret
              exact ⟨by rw [hfin, h5]; simp, k0⟩
            | true =>
              go_wp2
              go_ret
              exact ⟨by rw [hfin, h5, decide_eq_true h4', decide_eq_true h16]; simp; try omega, k0⟩
        · have h16' : ¬ wrap32 (at_ + 2147483648) % 4294967296 < 16 := by omega
          have hres : Hid (mayN 2 at_ dst n = false) := Lib.hid (by rw [hfin, decide_eq_false h16]; rfl)
          clear hfin
          go_wp2
          go_ret
          exact ⟨by rw [hres.out]; rfl, k0⟩
      · have e2 : ((k : Int) == 2) = false := by simp; omega
        go_wp2
        go_ret
        exact ⟨by simp [mayN, h0, h1, h2], k0⟩
set_option maxRecDepth 100000 in
set_option maxHeartbeats 2000000 in
theorem rMay38 (k : Nat) (at_ dst : Int) (A : Option Addr) (n c : Nat) (hk : k ≤ 255) (ha : word32 at_) (w : World) :
    Calls Tryd.prog 18 #[.agg (cmdC k at_ dst A n c)] w (RetV (.bool (mayN k at_ dst n)) w) := by
  unfold word32 at ha
  have k0 : Below w.heap.size w (w.alloc (.cells (cmdC k at_ dst A n c) 38)) := (Below.refl _ _).alloc (Nat.le_refl _) _
  have b0 := Blk.new w 38 (cmdC k at_ dst A n c)
  simp only [cmdC] at k0 b0 ⊢
  go_enter Tryd.func18, Tryd.ntmps18
  go_upto_region 1 with (fail)
  have c00 := b0.cell 0
  have c01 := b0.cell 1
  have c02 := b0.cell 2
  have c03 := b0.cell 3
  simp at c00 c01 c02 c03
  have ht : (at_.tmod 4 == 0) = decide (at_ % 4 = 0) := by
    rw [Bool.eq_iff_iff, beq_iff_eq, decide_eq_true_eq]
    exact ⟨fun h => Int.emod_eq_zero_of_dvd (Int.dvd_of_tmod_eq_zero h), fun h => Int.tmod_eq_zero_of_dvd (Int.dvd_of_emod_eq_zero h)⟩
  by_cases h0 : k = 0
  · subst h0
    cases h4 : (at_.tmod 4 == 0) with
    | false =>
      have hres : Hid (mayN 0 at_ dst n = false) := Lib.hid (by rw [h4] at ht; simp only [mayN, ← ht]; rfl)
      clear ht
      go_wp2
      go_ret
      exact ⟨by rw [hres.out]; rfl, k0⟩
    | true =>
      have hres : Hid (mayN 0 at_ dst n = decide (n = 0)) := Lib.hid (by rw [h4] at ht; simp only [mayN, ← ht]; rfl)
      have hnn : ((n : Int) == 0) = decide (n = 0) := by rw [Bool.eq_iff_iff]; simp
      clear ht
      go_wp2
      go_ret
      exact ⟨by rw [hres.out]; simp [hnn], k0⟩
  · have e0 : ((k : Int) == 0) = false := by simp; omega
    by_cases h1 : k = 1
    · subst h1
      cases h4 : (dst == 0) with
      | false =>
        go_wp2
        go_ret
        exact ⟨by simp [mayN, h4], k0⟩
      | true =>
        go_wp2
        go_ret
        exact ⟨by simp [mayN, h4]; try omega, k0⟩
    · have e1 : ((k : Int) == 1) = false := by simp; omega
      by_cases h2 : k = 2
      · subst h2
        have hfin : mayN 2 at_ dst n = (linkB at_ && ((dst == 0) && decide (n ≤ 64))) := rfl
        have key : ∀ v : Int, (v = -2147483648 ∨ v = -2147483644 ∨ v = -2147483640 ∨ v = -2147483636) → linkB v = true := by
          rintro v (rfl | rfl | rfl | rfl) <;> rfl
        by_cases hl : at_ = -2147483648 ∨ at_ = -2147483644 ∨ at_ = -2147483640 ∨ at_ = -2147483636
        · rw [key _ hl, Bool.true_and] at hfin
          have HF := Lib.hid hfin
          clear hfin key
          cases h5 : (dst == 0) with
          | false =>
            rw [h5, Bool.false_and] at HF
            rcases hl with rfl | rfl | rfl | rfl
            all_goals (go_wp2; go_ret; exact ⟨by rw [HF.out]; rfl, k0⟩)
          | true =>
            rw [h5, Bool.true_and] at HF
            have hnn : decide ((n : Int) ≤ 64) = decide (n ≤ 64) := by rw [decide_eq_decide]; omega
            rcases hl with rfl | rfl | rfl | rfl
            all_goals (go_wp2; go_ret; exact ⟨by rw [HF.out]; simp [hnn], k0⟩)
        · have hn1 : (at_ == -2147483648) = false := by simp; omega
          have hn2 : (at_ == -2147483644) = false := by simp; omega
          have hn3 : (at_ == -2147483640) = false := by simp; omega
          have hn4 : (at_ == -2147483636) = false := by simp; omega
          have HF : Hid (mayN 2 at_ dst n = false) := Lib.hid (by rw [hfin]; unfold linkB; rw [hn1, hn2, hn3, hn4]; rfl)
          clear hfin key
          go_wp2
          go_ret
          exact ⟨by rw [HF.out]; rfl, k0⟩
      · have e2 : ((k : Int) == 2) = false := by simp; omega
        go_wp2
        go_ret
        exact ⟨by simp [mayN, h0, h1, h2], k0⟩
end Go.Proofs.YtljeecocbcffcaaDoor

/- A word behind bytes: put of the loader, walked. -/
namespace Go.Proofs.YtljeecocbcffcaaDoor
open Go.RowKit
set_option linter.unusedSimpArgs false
set_option linter.unusedVariables false

/-- All blocks but one lie as they lay. -/
def KeptB (w w' : World) (row : Option Nat) : Prop := w.heap.size ≤ w'.heap.size ∧ ∀ k, k < w.heap.size → some k ≠ row → w'.heap[k]? = w.heap[k]?
/-- A slice lies where it lay, or in a new block. -/
def RowOf (w : World) (b v : Value) : Prop := v.ownBlock = b.ownBlock ∨ ∃ g, v.ownBlock = some g ∧ w.heap.size ≤ g
section
variable {w w1 w2 w' : World} {row : Option Nat} {b x v : Value}
theorem KeptB.size (h : KeptB w w' row) : w.heap.size ≤ w'.heap.size := h.1
theorem KeptB.refl : KeptB w w row := ⟨Nat.le_refl _, fun _ _ _ => rfl⟩
theorem KeptB.alloc (h : KeptB w w' row) (o : Obj) : KeptB w (w'.alloc o) row :=
  ⟨by have := h.1; simp; omega, fun k hk hr => (Below.heap_alloc w' o k (Nat.lt_of_lt_of_le hk h.1)).trans (h.2 k hk hr)⟩
theorem KeptB.drew (h : KeptB w w' row) : KeptB w w'.drew row := h
theorem KeptB.step (h : KeptB w w1 b.ownBlock) (hx : RowOf w b x) (hg : w1.grownBy w2 x.ownBlock) : KeptB w w2 b.ownBlock := by
  refine ⟨Nat.le_trans h.1 hg.size, fun k hk hr => ?_⟩
  rw [hg.block k (Nat.lt_of_lt_of_le hk h.1) ?_, h.2 k hk hr]
  rcases hx with e | ⟨g, e, hl⟩
  · rw [e]; exact hr
  · rw [e]; intro e2; injection e2 with e2; omega
theorem KeptB.trans (h : KeptB w w1 b.ownBlock) (hx : RowOf w b x) (h2 : KeptB w1 w2 x.ownBlock) : KeptB w w2 b.ownBlock := by
  refine ⟨Nat.le_trans h.1 h2.1, fun k hk hr => ?_⟩
  rw [h2.2 k (Nat.lt_of_lt_of_le hk h.1) ?_, h.2 k hk hr]
  rcases hx with e | ⟨g, e, hl⟩
  · rw [e]; exact hr
  · rw [e]; intro e2; injection e2 with e2; omega
theorem RowOf.refl : RowOf w b b := .inl rfl
theorem RowOf.step (hx : RowOf w b x) (hs : w.heap.size ≤ w1.heap.size) (h : v.ownBlock = x.ownBlock ∨ v.ownBlock = some w1.heap.size) : RowOf w b v := by
  rcases h with e | e
  · unfold RowOf; rw [e]; exact hx
  · exact .inr ⟨_, e, hs⟩
theorem RowOf.trans (hx : RowOf w b x) (hs : w.heap.size ≤ w1.heap.size) (h : RowOf w1 x v) : RowOf w b v := by
  rcases h with e | ⟨g, e, hl⟩
  · unfold RowOf; rw [e]; exact hx
  · exact .inr ⟨g, e, by omega⟩
theorem KeptB.cell (h : KeptB w w' row) {g o : Nat} (hg : g < w.heap.size) (hr : some g ≠ row) : w'.cell? ⟨g, o, none⟩ = w.cell? ⟨g, o, none⟩ :=
  World.cell?_of_block (a := ⟨g, o, none⟩) (h.2 g hg hr)
theorem Blk.kept {g : Nat} {t : TypeId} {cs : Array Value} (hb : Blk w g t cs) (h : KeptB w w' row) (hr : some g ≠ row) : Blk w' g t cs := (h.2 g hb.lt hr).trans hb
end
/-- A call that leaves what was handed to it longer. -/
def RetApp (B T size n : Nat) (xs : List Value) (b : Value) (w : World) (e : Ending) (w' : World) : Prop :=
  ∃ v, e = .returned v ∧ w'.ownsRow B T size v n xs ∧ Below B w w' ∧ KeptB w w' b.ownBlock ∧ RowOf w b v
/-- One byte of a word. -/
def byteI (v : Int) (k : Nat) : UInt8 := (wordI v).getD k 0
theorem wordI_take (v : Int) {k : Nat} (hk : k < 4) : (wordI v).take (k + 1) = (wordI v).take k ++ [byteI v k] := by
  match k, hk with
  | 0, _ => rfl
  | 1, _ => rfl
  | 2, _ => rfl
  | 3, _ => rfl
theorem byteI0 (v : Int) : ((byteI v 0).toNat : Int) = v % 256 := by
  show ((UInt8.ofNat _).toNat : Int) = _
  rw [byteN]; omega
theorem byteI1 (v : Int) : ((byteI v 1).toNat : Int) = v / 256 % 256 := by
  show ((UInt8.ofNat _).toNat : Int) = _
  rw [byteN]; omega
theorem byteI2 (v : Int) : ((byteI v 2).toNat : Int) = v / 65536 % 256 := by
  show ((UInt8.ofNat _).toNat : Int) = _
  rw [byteN]; omega
theorem byteI3 (v : Int) : ((byteI v 3).toNat : Int) = v / 16777216 % 256 := by
  show ((UInt8.ofNat _).toNat : Int) = _
  rw [byteN]; omega
set_option maxRecDepth 100000 in
set_option maxHeartbeats 4000000 in
theorem lput (v : Int) (hv : word32 v) (B : Nat) (b : Value) (n : Nat) (hn : n ≤ 2000000000) (xs : List Value) (w : World) (ho : w.ownsRow B 5 1 b n xs) (hB : B ≤ w.heap.size) :
    Calls Tryd.prog 42 #[b, .int .i32 v] w (RetApp B 5 1 (n + 4) (xs ++ bcells (wordI v)) b w) := by
  unfold word32 at hv
  obtain ⟨i0, hi0, hz0, hz1, hz2⟩ := info_parts byte_info
  have HO : Hid (w.ownsRow B 5 1 b (n + 0) (xs ++ bcells ((wordI v).take 0))) := Lib.hid (by simpa [bcells] using ho)
  have HB := Lib.hid hB
  have e0 := byteI0 v
  have e1 := byteI1 v
  have e2 := byteI2 v
  have e3 := byteI3 v
  clear ho
  go_enter Tryd.func42, Tryd.ntmps42
  go_wp2
  go_loopw [0, 5] (fun x i wr => ∃ k : Nat, k ≤ 4 ∧ i = .int .i64 (8 * (k : Int)) ∧ Hid (Below B w wr) ∧ Hid (KeptB w wr b.ownBlock) ∧ Hid (RowOf w b x) ∧ Hid (wr.ownsRow B 5 1 x (n + k) (xs ++ bcells ((wordI v).take k)))) (fun _ i _ => 32 - (intOf i).toNat)
  case atStart => exact ⟨0, by omega, rfl, Lib.hid (Below.refl _ _), Lib.hid KeptB.refl, Lib.hid RowOf.refl, HO⟩
  case round =>
    clear HO
    obtain ⟨k, hk, rfl, K, KB, KR, O⟩ := hrel
    by_cases h4 : k < 4
    · have HT := Lib.hid (wordI_take v h4)
      obtain ⟨u, hu⟩ : ∃ u : UInt8, byteI v k = u := ⟨_, rfl⟩
      rw [hu] at HT
      have HK := Lib.hid K.out.size
      have hBw : B ≤ wr.heap.size := Nat.le_trans hB K.out.size
      have O2 := Lib.hid (O.out.alloc (.cells #[.int .u8 (u.toNat : Int)] 5))
      have b0 := Blk.new wr 5 #[.int .u8 (u.toNat : Int)]
      have HN : Hid ((xs ++ bcells ((wordI v).take k)) ++ [.int .u8 (u.toNat : Int)] = xs ++ bcells ((wordI v).take (k + 1))) := Lib.hid (by
        rw [HT.out, bcells_append, List.append_assoc]; rfl)
      clear O HT
      have hk4 : k = 0 ∨ k = 1 ∨ k = 2 ∨ k = 3 := by omega
      rcases hk4 with rfl | rfl | rfl | rfl
      · rw [hu] at e0
        rw [e0] at O2 b0 HN
        have HE0 := Lib.hid e0
        clear e0 e1 e2 e3 hu
        go_wp2_with (at_builtin; refine app_own Tryd.underlying22 hi0 hz0 hz1 hz2 rfl (by decide) O2.out (by simp; omega) rfl (.tmp 10) (.tmp 15) rfl rfl wr.heap.size 1 1 #[.int .u8 (v % 256)] rfl b0 rfl (by simp [Value.oneCell']) (by omega) (by omega) ?_; intro v' w' hown hg hb hat
                     have K2 := Lib.hid (K.out.trans (((Below.refl B wr).alloc hBw _).trans hb))
                     have O3 : Hid (w'.ownsRow B 5 1 v' (n + (0 + 1)) (xs ++ bcells ((wordI v).take (0 + 1)))) := Lib.hid (by rw [← HN.out]; exact hown)
                     have KB2 := Lib.hid ((KB.out.alloc _).step KR.out hg)
                     have KR2 := Lib.hid (KR.out.step (KB.out.alloc (.cells #[.int .u8 (v % 256)] 5)).1 hat)
                     clear hown hg hb hat)
        go_roundw
        case rel => exact ⟨0 + 1, by omega, by go_num, K2, KB2, KR2, O3⟩
        case measure => simp [intOf]
      · rw [hu] at e1
        rw [e1] at O2 b0 HN
        have HE1 := Lib.hid e1
        clear e0 e1 e2 e3 hu
        go_wp2_with (at_builtin; refine app_own Tryd.underlying22 hi0 hz0 hz1 hz2 rfl (by decide) O2.out (by simp; omega) rfl (.tmp 10) (.tmp 15) rfl rfl wr.heap.size 1 1 #[.int .u8 (v / 256 % 256)] rfl b0 rfl (by simp [Value.oneCell']) (by omega) (by omega) ?_; intro v' w' hown hg hb hat
                     have K2 := Lib.hid (K.out.trans (((Below.refl B wr).alloc hBw _).trans hb))
                     have O3 : Hid (w'.ownsRow B 5 1 v' (n + (1 + 1)) (xs ++ bcells ((wordI v).take (1 + 1)))) := Lib.hid (by rw [← HN.out]; exact hown)
                     have KB2 := Lib.hid ((KB.out.alloc _).step KR.out hg)
                     have KR2 := Lib.hid (KR.out.step (KB.out.alloc (.cells #[.int .u8 (v / 256 % 256)] 5)).1 hat)
                     clear hown hg hb hat)
        go_roundw
        case rel => exact ⟨1 + 1, by omega, by go_num, K2, KB2, KR2, O3⟩
        case measure => simp [intOf]
      · rw [hu] at e2
        rw [e2] at O2 b0 HN
        have HE2 := Lib.hid e2
        clear e0 e1 e2 e3 hu
        go_wp2_with (at_builtin; refine app_own Tryd.underlying22 hi0 hz0 hz1 hz2 rfl (by decide) O2.out (by simp; omega) rfl (.tmp 10) (.tmp 15) rfl rfl wr.heap.size 1 1 #[.int .u8 (v / 65536 % 256)] rfl b0 rfl (by simp [Value.oneCell']) (by omega) (by omega) ?_; intro v' w' hown hg hb hat
                     have K2 := Lib.hid (K.out.trans (((Below.refl B wr).alloc hBw _).trans hb))
                     have O3 : Hid (w'.ownsRow B 5 1 v' (n + (2 + 1)) (xs ++ bcells ((wordI v).take (2 + 1)))) := Lib.hid (by rw [← HN.out]; exact hown)
                     have KB2 := Lib.hid ((KB.out.alloc _).step KR.out hg)
                     have KR2 := Lib.hid (KR.out.step (KB.out.alloc (.cells #[.int .u8 (v / 65536 % 256)] 5)).1 hat)
                     clear hown hg hb hat)
        go_roundw
        case rel => exact ⟨2 + 1, by omega, by go_num, K2, KB2, KR2, O3⟩
        case measure => simp [intOf]
      · rw [hu] at e3
        rw [e3] at O2 b0 HN
        have HE3 := Lib.hid e3
        clear e0 e1 e2 e3 hu
        go_wp2_with (at_builtin; refine app_own Tryd.underlying22 hi0 hz0 hz1 hz2 rfl (by decide) O2.out (by simp; omega) rfl (.tmp 10) (.tmp 15) rfl rfl wr.heap.size 1 1 #[.int .u8 (v / 16777216 % 256)] rfl b0 rfl (by simp [Value.oneCell']) (by omega) (by omega) ?_; intro v' w' hown hg hb hat
                     have K2 := Lib.hid (K.out.trans (((Below.refl B wr).alloc hBw _).trans hb))
                     have O3 : Hid (w'.ownsRow B 5 1 v' (n + (3 + 1)) (xs ++ bcells ((wordI v).take (3 + 1)))) := Lib.hid (by rw [← HN.out]; exact hown)
                     have KB2 := Lib.hid ((KB.out.alloc _).step KR.out hg)
                     have KR2 := Lib.hid (KR.out.step (KB.out.alloc (.cells #[.int .u8 (v / 16777216 % 256)] 5)).1 hat)
                     clear hown hg hb hat)
        go_roundw
        case rel => exact ⟨3 + 1, by omega, by go_num, K2, KB2, KR2, O3⟩
        case measure => simp [intOf]
    · obtain rfl : k = 4 := by omega
      go_wp2
      go_ret
      exact ⟨_, rfl, O.out, K.out, KB.out, KR.out⟩
end Go.Proofs.YtljeecocbcffcaaDoor

/- Commands in memory; Put of the loader, walked. -/
namespace Go.Proofs.YtljeecocbcffcaaDoor
open Go.RowKit
set_option linter.unusedSimpArgs false
set_option linter.unusedVariables false

/-- A command as it lies in memory. -/
structure CmdV where
  kind : Nat
  at_ : Int
  dst : Int
  A : Option Addr
  c : Nat
  bytes : List UInt8
def CmdV.val (x : CmdV) : CmdL := ⟨x.kind, x.at_, x.dst, x.bytes⟩
def CmdV.cells (x : CmdV) : Array Value := cmdC x.kind x.at_ x.dst x.A x.bytes.length x.c
def cmdsV (l : List CmdV) : List Value := l.flatMap fun x => x.cells.toList
def vals (l : List CmdV) : List CmdL := l.map CmdV.val
def VOk (w : World) (B : Nat) (x : CmdV) : Prop := x.kind ≤ 255 ∧ word32 x.at_ ∧ word32 x.dst ∧ Reads w B 1 x.A x.bytes.length (bcells x.bytes)
def VsOk (w : World) (B : Nat) (l : List CmdV) : Prop := ∀ x ∈ l, VOk w B x
section
variable {w w' : World} {B B' : Nat} {l : List CmdV}
theorem VsOk.below (h : VsOk w B l) (hb : Below B w w') : VsOk w' B l := fun x hx => ⟨(h x hx).1, (h x hx).2.1, (h x hx).2.2.1, (h x hx).2.2.2.below hb⟩
theorem VsOk.more (h : VsOk w B l) (hB : B ≤ B') : VsOk w B' l := fun x hx => ⟨(h x hx).1, (h x hx).2.1, (h x hx).2.2.1, (h x hx).2.2.2.more hB⟩
theorem VsOk.cok (h : VsOk w B l) : ∀ c ∈ vals l, COk c := by
  intro c hc
  obtain ⟨x, hx, rfl⟩ := List.mem_map.1 hc
  exact ⟨(h x hx).1, (h x hx).2.1, (h x hx).2.2.1⟩
end
theorem cmdsV_len (l : List CmdV) : (cmdsV l).length = l.length * 4 := by
  induction l with
  | nil => rfl
  | cons x r ih =>
    have e : cmdsV (x :: r) = x.cells.toList ++ cmdsV r := by simp [cmdsV]
    rw [e, List.length_append, ih]
    simp [CmdV.cells, cmdC]; omega
theorem cmdsV_append (a b : List CmdV) : cmdsV (a ++ b) = cmdsV a ++ cmdsV b := by simp [cmdsV]
theorem cmdsV_at : ∀ (l : List CmdV) (k : Nat) (x : CmdV), l[k]? = some x → ∀ j, j < 4 → (cmdsV l)[k * 4 + j]? = x.cells.toList[j]?
  | [], k, x, h, _, _ => by simp at h
  | y :: r, 0, x, h, j, hj => by
    simp at h; subst h
    have e : cmdsV (y :: r) = y.cells.toList ++ cmdsV r := by simp [cmdsV]
    rw [e, List.getElem?_append_left (by simp [CmdV.cells, cmdC]; omega)]
    simp
  | y :: r, k + 1, x, h, j, hj => by
    have e : cmdsV (y :: r) = y.cells.toList ++ cmdsV r := by simp [cmdsV]
    have hl : y.cells.toList.length = 4 := rfl
    rw [e, List.getElem?_append_right (by omega), hl, show (k + 1) * 4 + j - 4 = k * 4 + j by omega]
    exact cmdsV_at r k x (by simpa using h) j hj
/-- The cells of one command of a slice. -/
theorem cmds_at {w : World} {B n : Nat} {A : Option Addr} {l : List CmdV} (h : Reads w B 4 A n (cmdsV l)) {k : Nat} (hk : k < n) :
    ∃ b off x, A = some ⟨b, off, none⟩ ∧ b < B ∧ l[k]? = some x ∧ w.cell? ⟨b, off + k * 4, none⟩ = some (.int .u8 x.kind) ∧ w.cell? ⟨b, off + k * 4 + 1, none⟩ = some (.int .i32 x.at_) ∧
      w.cell? ⟨b, off + k * 4 + 2, none⟩ = some (.int .i32 x.dst) ∧ w.cell? ⟨b, off + k * 4 + 3, none⟩ = some (.slice x.A x.bytes.length x.c) := by
  have hl := h.1
  rw [cmdsV_len] at hl
  obtain ⟨b, off, rfl, hb, hc⟩ := h.addr (by omega) (by omega)
  have hx : l[k]? = some l[k] := List.getElem?_eq_getElem (by omega)
  have hat := cmdsV_at l k _ hx
  refine ⟨b, off, l[k], rfl, hb, hx, ?_, ?_, ?_, ?_⟩
  · have := hc (k * 4 + 0) _ (hat 0 (by omega)); exact this
  · have := hc (k * 4 + 1) _ (hat 1 (by omega)); exact this
  · have := hc (k * 4 + 2) _ (hat 2 (by omega)); exact this
  · have := hc (k * 4 + 3) _ (hat 3 (by omega)); exact this
theorem vals_len (l : List CmdV) : (vals l).length = l.length := by simp [vals]
theorem vals_get {l : List CmdV} {k : Nat} {x : CmdV} (h : l[k]? = some x) : (vals l)[k]? = some x.val := by simp [vals, h]
theorem sizeC_snoc (l : List CmdL) (c : CmdL) : sizeC (l ++ [c]) = sizeC l + (12 + c.bytes.length) := by simp [sizeC]
theorem putC_snoc (l : List CmdL) (c : CmdL) : putC (l ++ [c]) = putC l ++ oneC c := by simp [putC]
theorem vals_take {l : List CmdV} {k : Nat} {x : CmdV} (h : l[k]? = some x) : (vals l).take (k + 1) = (vals l).take k ++ [x.val] := by
  rw [List.take_add_one, vals_get h]; rfl
theorem putC_take_le (l : List CmdL) (k : Nat) : (putC (l.take k)).length ≤ (putC l).length := by
  have h : putC l = putC (l.take k) ++ putC (l.drop k) := by
    unfold putC
    rw [← List.flatMap_append, List.take_append_drop]
  rw [h, List.length_append]; omega
theorem oneC_val (x : CmdV) : oneC x.val = wordI x.kind ++ (wordI x.at_ ++ (wordI (if x.kind = 0 then x.dst else (x.bytes.length : Int)) ++ x.bytes)) := by
  unfold oneC
  by_cases h : x.kind = 0
  · rw [if_pos h, if_pos (show x.val.kind = 0 from h)]; rfl
  · rw [if_neg h, if_neg (show ¬ x.val.kind = 0 from h)]; rfl
theorem vals_all {l : List CmdV} (h : (vals l).all mayC = true) {k : Nat} {x : CmdV} (hx : l[k]? = some x) : mayC x.val = true :=
  List.all_eq_true.1 h _ (List.mem_of_getElem? (vals_get hx))
def putR (l : List CmdL) : List UInt8 := if errC l = 0 then putC l else []
/-- The encodings of commands, or the error. -/
def RetPut (l : List CmdL) (w : World) (e : Ending) (w' : World) : Prop :=
  Below w.heap.size w w' ∧ ∃ v, e = .returned (.tuple #[v, .int .i64 (errC l)]) ∧ w'.ownsRow w.heap.size 5 1 v (putR l).length (bcells (putR l))
theorem errC_two {l : List CmdL} {k : Nat} {c : CmdL} (h : l[k]? = some c) (hm : mayC c = false) : errC l = 2 := by
  unfold errC
  rw [if_neg]
  intro ha
  have := List.all_eq_true.1 ha c (List.mem_of_getElem? h)
  rw [hm] at this; cases this
theorem all_take {l : List CmdL} {k : Nat} {c : CmdL} (h : l[k]? = some c) (ha : (l.take k).all mayC = true) (hm : mayC c = true) : (l.take (k + 1)).all mayC = true := by
  rw [List.take_add_one, h]
  simp only [Option.toList_some, List.all_append, ha, List.all_cons, hm, List.all_nil, Bool.and_true]
set_option maxRecDepth 100000 in
set_option maxHeartbeats 4000000 in
theorem lPut (l : List CmdV) (hn : l.length ≤ 1000000) (hb : ∀ x ∈ l, x.bytes.length ≤ 140737488355328) (A : Option Addr) (c : Nat) (w : World) (hr : Reads w w.heap.size 4 A l.length (cmdsV l)) (hv : VsOk w w.heap.size l) :
    Calls Tryd.prog 19 #[.slice A (l.length : Nat) c] w (RetPut (vals l) w) := by
  obtain ⟨i0, hi0, hz0, hz1, hz2⟩ := info_parts byte_info
  have HR := Lib.hid hr
  have HV := Lib.hid hv
  have HBY := Lib.hid hb
  have HT := Lib.hid (fun (k : Nat) (x : CmdV) (hx : l[k]? = some x) => vals_take hx)
  have HG := Lib.hid (fun (k : Nat) (x : CmdV) (hx : l[k]? = some x) => vals_get hx)
  have HLN := Lib.hid (vals_len l)
  generalize vals l = L at *
  obtain ⟨n, hnn⟩ : ∃ n, l.length = n := ⟨_, rfl⟩
  rw [hnn] at HR hn HLN ⊢
  clear hr hv hb hnn
  unfold RetPut
  go_enter Tryd.func19, Tryd.ntmps19
  go_wp2
  go_loopw [4, 13] (fun s i wr => ∃ k : Nat, k ≤ n ∧ i = .int .i64 k ∧ s = .int .i64 (min ((sizeC (L.take k) : Nat) : Int) 1048577) ∧ Hid ((L.take k).all mayC = true) ∧ Hid (Below w.heap.size w wr)) (fun _ i _ => n - (intOf i).toNat)
  case atStart => exact ⟨0, by omega, rfl, by simp [sizeC]; rfl, Lib.hid rfl, Lib.hid (Below.refl _ _)⟩
  case round =>
    obtain ⟨k, hk, rfl, rfl, HA, K⟩ := hrel
    by_cases hlt : k < n
    · have hltI : (k : Int) < n := by omega
      obtain ⟨b, off, x, rfl, hb, hx, c0, c1, c2, c3⟩ := cmds_at (HR.out.below K.out) hlt
      have hM := Lib.hid (fun w1 => lMay x.kind x.at_ x.dst x.A x.bytes.length x.c (HV.out x (List.mem_of_getElem? hx)).1 (HV.out x (List.mem_of_getElem? hx)).2.1 w1)
      have hme : mayN x.kind x.at_ x.dst x.bytes.length = mayC x.val := rfl
      rw [hme] at hM
      have hbs : b < wr.heap.size := Nat.lt_of_lt_of_le hb K.out.size
      have b0 := Blk.new wr 38 x.cells
      have K1 := Lib.hid (K.out.alloc K.out.size (.cells x.cells 38))
      have hbl := HBY.out x (List.mem_of_getElem? hx)
      have HX := Lib.hid hx
      simp only [CmdV.cells, cmdC] at b0 K1 hM
      cases hm : mayC x.val with
      | false =>
        rw [hm] at hM
        go_wp2_with (go_at_call 17; (with_reducible refine (hM.out _).mono ?_); rintro e w1 ⟨rfl, hb1⟩
                     have K2 := Lib.hid (K1.out.trans (hb1.mono K1.out.size)))
        go_ret2
        have hE := errC_two (HG.out k x HX.out) hm
        refine ⟨K2.out, _, by rw [hE]; rfl, ?_⟩
        unfold putR
        rw [hE, if_neg (by decide)]
        exact World.ownsRow_nil _ _ _ _
      | true =>
        rw [hm] at hM
        have HTK := Lib.hid (HT.out k x HX.out)
        have hsn := sizeC_snoc (L.take k) x.val
        rw [← HTK.out] at hsn
        have hbe : x.val.bytes.length = x.bytes.length := rfl
        rw [hbe] at hsn
        have HAN := Lib.hid (all_take (HG.out k x HX.out) HA.out hm)
        generalize sizeC (L.take k) = s0 at *
        have hmn : min (min (s0 : Int) 1048577 + 12 + (x.bytes.length : Int)) 1048577 = min ((s0 + (12 + x.bytes.length) : Nat) : Int) 1048577 := by omega
        have HSN := Lib.hid hsn
        clear hsn
        go_wp2_with (go_at_call 17; (with_reducible refine (hM.out _).mono ?_); rintro e w1 ⟨rfl, hb1⟩
                     have K2 := Lib.hid (K1.out.trans (hb1.mono K1.out.size))
                     have b2 := b0.call hb1
                     have d0 := b2.cell 0
                     have d1 := b2.cell 1
                     have d2 := b2.cell 2
                     have d3 := b2.cell 3
                     simp at d0 d1 d2 d3
                     clear hb1)
        go_roundw
        case rel => exact ⟨k + 1, by omega, by go_num, by rw [HSN.out]; exact congrArg _ (by omega), HAN, K2⟩
        case measure => simp [intOf]; omega
    · have hltI : ¬ (k : Int) < n := by omega
      obtain rfl : n = k := by omega
      rw [List.take_of_length_le (by rw [HLN.out]; omega)] at HA
      have hsz : min ((sizeC (L.take n) : Nat) : Int) 1048577 = min ((sizeC L : Nat) : Int) 1048577 := by rw [List.take_of_length_le (by rw [HLN.out]; omega)]
      rw [hsz]
      clear hsz
      by_cases hbig : 1048576 < sizeC L
      · have hE : errC L = 3 := by unfold errC; rw [if_pos HA.out, if_neg (by omega)]
        have h1 : min ((sizeC L : Nat) : Int) 1048577 = 1048577 := by omega
        rw [h1]
        have HE := Lib.hid hE
        clear hE
        go_wp2
        go_ret2
        refine ⟨K.out, _, by rw [HE.out]; rfl, ?_⟩
        unfold putR
        rw [HE.out, if_neg (by decide)]
        exact World.ownsRow_nil _ _ _ _
      · have hE : errC L = 0 := by unfold errC; rw [if_pos HA.out, if_pos (by omega)]
        have h1 : min ((sizeC L : Nat) : Int) 1048577 = ((sizeC L : Nat) : Int) := by omega
        have h2 : ¬ 1048576 < ((sizeC L : Nat) : Int) := by omega
        have HR2 : Hid (putR L = putC L) := Lib.hid (by unfold putR; rw [if_pos hE])
        have HPL := Lib.hid (sizeC_len L)
        rw [h1]
        have HE := Lib.hid hE
        clear h1 hE
        generalize sizeC L = sz at *
        have hszb : sz ≤ 1048576 := by omega
        have HSZ := Lib.hid hszb
        clear hbig hszb
        have N0 : Hid (wr.ownsRow w.heap.size 5 1 (.slice none 0 0) (putC (L.take 0)).length (bcells (putC (L.take 0)))) := Lib.hid (World.ownsRow_nil _ _ _ _)
        go_wp2
        go_loopw [7, 32] (fun x i wr => ∃ k : Nat, k ≤ n ∧ i = .int .i64 k ∧ Hid (Below w.heap.size w wr) ∧ Hid (wr.ownsRow w.heap.size 5 1 x (putC (L.take k)).length (bcells (putC (L.take k))))) (fun _ i _ => n - (intOf i).toNat)
        case atStart => exact ⟨0, by omega, rfl, K, N0⟩
        case round =>
          clear K N0
          obtain ⟨k, hk, rfl, K, O⟩ := hrel
          by_cases hlt : k < n
          · have hltI : (k : Int) < n := by omega
            obtain ⟨b, off, x, rfl, hb, hx, c0, c1, c2, c3⟩ := cmds_at (HR.out.below K.out) hlt
            obtain ⟨hk255, ha32, hd32, hbr⟩ := HV.out x (List.mem_of_getElem? hx)
            have hmay : mayC x.val = true := List.all_eq_true.1 HA.out _ (List.mem_of_getElem? (HG.out k x hx))
            have h65 : x.bytes.length ≤ 65536 := mayC_len hmay
            have hle := putC_take_le L (k + 1)
            have hP : putC (L.take (k + 1)) = putC (L.take k) ++ oneC x.val := by rw [HT.out k x hx, putC_snoc]
            rw [← HPL.out, hP, List.length_append, oneC_len] at hle
            have hbe : x.val.bytes.length = x.bytes.length := rfl
            rw [hbe] at hle
            have hszb := HSZ.out
            rw [oneC_val] at hP
            have hth : word32 (if x.kind = 0 then x.dst else (x.bytes.length : Int)) := by
              split
              · exact hd32
              · unfold word32; omega
            obtain ⟨third, hti⟩ : ∃ t, (if x.kind = 0 then x.dst else (x.bytes.length : Int)) = t := ⟨_, rfl⟩
            rw [hti] at hth hP
            have hw1 := O.out.1
            have HBR := Lib.hid hbr
            have HP := Lib.hid hP
            have HKW := Lib.hid (show word32 (x.kind : Int) by unfold word32; omega)
            have HAW := Lib.hid ha32
            have HTW := Lib.hid hth
            have O1 := Lib.hid (O.out.alloc (.cells x.cells 38))
            have K1 := Lib.hid (K.out.alloc K.out.size (.cells x.cells 38))
            have b1 := Blk.new wr 38 x.cells
            have hgne : some wr.heap.size ≠ u7.ownBlock := fun e => by have := (O.out.lt wr.heap.size e.symm).2; omega
            generalize putC (L.take k) = pk at *
            simp only [CmdV.cells, cmdC] at b1 O1 K1
            obtain ⟨g, hg⟩ : ∃ g, wr.heap.size = g := ⟨_, rfl⟩
            have hb2 : b < g := by rw [← hg]; exact Nat.lt_of_lt_of_le hb K.out.size
            clear hP hth hbe hmay hx hw1 HA HT HG HBY hbr
            obtain ⟨wn, hwn⟩ : ∃ W, wr.alloc (.cells #[.int .u8 x.kind, .int .i32 x.at_, .int .i32 x.dst, .slice x.A x.bytes.length x.c] 38) = W := ⟨_, rfl⟩
            rw [hwn, hg] at b1
            rw [hwn] at O1 K1
            rw [hg] at hgne
            clear K O
            go_upto_region 15 with (fail)
            clear hwn hg c0 c1 c2 c3
            have d0 := b1.cell 0
            have d1 := b1.cell 1
            have d2 := b1.cell 2
            have d3 := b1.cell 3
            simp at d0 d1 d2 d3
            have hgs : g < wn.heap.size := b1.lt
            have hs0 : w.heap.size ≤ wn.drew.heap.size := K1.out.size
            have O1d := Lib.hid O1.out.drew'
            have hs1 : pk.length ≤ 2000000000 := by omega
            have hs2 : pk.length + 4 ≤ 2000000000 := by omega
            have hs3 : pk.length + 4 + 4 ≤ 2000000000 := by omega
            have hkz0 : ((x.kind : Int) == 0) = decide (x.kind = 0) := by rw [Bool.eq_iff_iff]; simp
            have hkb0 : (0 : Int) ≤ (x.kind : Int) := by omega
            have hkb1 : (x.kind : Int) ≤ 255 := by omega
            have hwz : IntKind.i32.wrap (x.kind : Int) = (x.kind : Int) := by rw [IntKind.wrap_i32]; omega
            clear hk255
            generalize (x.kind : Int) = kz at *
            have b1d : Blk wn.drew g 38 #[.int .u8 kz, .int .i32 x.at_, .int .i32 x.dst, .slice x.A x.bytes.length x.c] := b1
            by_cases hk0 : x.kind = 0
            · rw [if_pos hk0] at hti
              subst hti
              have hki : (kz == 0) = true := by rw [hkz0, decide_eq_true hk0]
              clear hkz0 hk0
              go_upto_region 18 with (fail)
              clear hki
              go_region_held3 (fun w' => w'.cell? ⟨g, 0, none⟩ = some (.int .u8 kz) ∧ w'.cell? ⟨g, 1, none⟩ = some (.int .i32 x.at_)) (first | exact ⟨d0, d1⟩ | exact ⟨(b1d.kept hk1 hgne).cell 0, (b1d.kept hk1 hgne).cell 1⟩ | exact ⟨(b1d.kept hk12 hgne).cell 0, (b1d.kept hk12 hgne).cell 1⟩ | exact ⟨(b1d.kept hk13 hgne).cell 0, (b1d.kept hk13 hgne).cell 1⟩)
                (first
                 | (go_at_call 42; (with_reducible refine (lput kz HKW.out w.heap.size u7 pk.length hs1 (bcells pk) wn.drew O1d.out hs0).mono ?_); rintro e w1 ⟨v1, rfl, ho1, hb1, hk1, hr1⟩)
                 | (go_at_call 42; (with_reducible refine (lput x.at_ HAW.out w.heap.size v1 (pk.length + 4) hs2 (bcells pk ++ bcells (wordI kz)) w1 ho1 (Nat.le_trans hs0 hk1.size)).mono ?_); rintro e w2 ⟨v2, rfl, ho2, hb2', hk2, hr2⟩
                    have hk12 := KeptB.trans hk1 hr1 hk2)
                 | (go_at_call 42; (with_reducible refine (lput x.dst HTW.out w.heap.size v2 (pk.length + 4 + 4) hs3 (bcells pk ++ bcells (wordI kz) ++ bcells (wordI x.at_)) w2 ho2 (Nat.le_trans hs0 hk12.size)).mono ?_); rintro e w3 ⟨v3, rfl, ho3, hb3, hk3, hr3⟩
                    have hk13 := KeptB.trans hk12 (RowOf.trans hr1 hk1.size hr2) hk3))
              have z13 : wn.drew.heap.size ≤ w3.heap.size := hk13.size
              have K3 := Lib.hid ((((K1.out.drew).trans hb1).trans hb2').trans hb3)
              have b4 := b1d.kept hk13 hgne
              have p3 := b4.cell 3
              simp at p3
              have R3 := Lib.hid ((HBR.out.below K3.out).more K3.out.size)
              have O3 := Lib.hid ho3
              have h1c : ∀ u ∈ bcells x.bytes, u.oneCell' = true := by
                intro u hu
                obtain ⟨z, -, rfl⟩ := List.mem_map.1 hu
                rfl
              have hs3' : w.heap.size ≤ w3.heap.size := K3.out.size
              have hbl3 : pk.length + 4 + 4 + 4 + x.bytes.length ≤ 1048576 := by omega
              have hmx : (pk.length + 4 + 4 + 4) + x.bytes.length ≤ maxLen := by unfold maxLen; omega
              clear hb1 hb2' hb3 hk1 hk2 hk3 hk12 hk13 hr1 hr2 hr3 ho1 ho2 ho3 O1 O1d K1 b1 b1d d0 d1 d2 d3
              go_wp2_with (at_builtin; refine wpList_append_any w3 rfl (.tmp 55) (.tmp 57) 22 rfl w.heap.size 5 i0 _ 1 1 Tryd.underlying22 hi0 hz0 hz1 hz2 rfl (by decide) _ _ _ rfl O3.out w3.heap.size x.A x.bytes.length x.c (bcells x.bytes) rfl R3.out h1c hmx (by omega) hs3' ?_; intro v' w6 hown6 hg6 hat6)
              have hgb6 := fun g e => (O3.out.lt g e).1
              have K6 := Lib.hid (K3.out.grown hg6 K3.out.size hgb6)
              have O6 : Hid (w6.ownsRow w.heap.size 5 1 v' (putC (L.take (k + 1))).length (bcells (putC (L.take (k + 1))))) := Lib.hid (by
                have hl : (putC (L.take (k + 1))).length = pk.length + 4 + 4 + 4 + x.bytes.length := by
                  rw [HP.out, List.length_append, List.length_append, List.length_append, List.length_append, wordI_len, wordI_len, wordI_len]; omega
                rw [hl, HP.out, bcells_append, bcells_append, bcells_append, bcells_append]
                simpa [List.append_assoc] using hown6)
              clear hown6 hg6 hat6
              go_roundw
              case rel => exact ⟨k + 1, by omega, by go_num, K6, O6⟩
              case measure => simp [intOf]; omega
            · rw [if_neg hk0] at hti
              subst hti
              have hki : (kz == 0) = false := by rw [hkz0, decide_eq_false hk0]
              have hwl : IntKind.i32.wrap (x.bytes.length : Int) = (x.bytes.length : Int) := by rw [IntKind.wrap_i32]; omega
              clear hkz0 hk0
              go_upto_region 18 with (fail)
              clear hki
              go_region_held3 (fun w' => w'.cell? ⟨g, 0, none⟩ = some (.int .u8 kz) ∧ w'.cell? ⟨g, 1, none⟩ = some (.int .i32 x.at_)) (first | exact ⟨d0, d1⟩ | exact ⟨(b1d.kept hk1 hgne).cell 0, (b1d.kept hk1 hgne).cell 1⟩ | exact ⟨(b1d.kept hk12 hgne).cell 0, (b1d.kept hk12 hgne).cell 1⟩ | exact ⟨(b1d.kept hk13 hgne).cell 0, (b1d.kept hk13 hgne).cell 1⟩)
                (first
                 | (go_at_call 42; (with_reducible refine (lput kz HKW.out w.heap.size u7 pk.length hs1 (bcells pk) wn.drew O1d.out hs0).mono ?_); rintro e w1 ⟨v1, rfl, ho1, hb1, hk1, hr1⟩)
                 | (go_at_call 42; (with_reducible refine (lput x.at_ HAW.out w.heap.size v1 (pk.length + 4) hs2 (bcells pk ++ bcells (wordI kz)) w1 ho1 (Nat.le_trans hs0 hk1.size)).mono ?_); rintro e w2 ⟨v2, rfl, ho2, hb2', hk2, hr2⟩
                    have hk12 := KeptB.trans hk1 hr1 hk2)
                 | (go_at_call 42; (with_reducible refine (lput (x.bytes.length : Int) HTW.out w.heap.size v2 (pk.length + 4 + 4) hs3 (bcells pk ++ bcells (wordI kz) ++ bcells (wordI x.at_)) w2 ho2 (Nat.le_trans hs0 hk12.size)).mono ?_); rintro e w3 ⟨v3, rfl, ho3, hb3, hk3, hr3⟩
                    have hk13 := KeptB.trans hk12 (RowOf.trans hr1 hk1.size hr2) hk3))
              have z13 : wn.drew.heap.size ≤ w3.heap.size := hk13.size
              have K3 := Lib.hid ((((K1.out.drew).trans hb1).trans hb2').trans hb3)
              have b4 := b1d.kept hk13 hgne
              have p3 := b4.cell 3
              simp at p3
              have R3 := Lib.hid ((HBR.out.below K3.out).more K3.out.size)
              have O3 := Lib.hid ho3
              have h1c : ∀ u ∈ bcells x.bytes, u.oneCell' = true := by
                intro u hu
                obtain ⟨z, -, rfl⟩ := List.mem_map.1 hu
                rfl
              have hs3' : w.heap.size ≤ w3.heap.size := K3.out.size
              have hbl3 : pk.length + 4 + 4 + 4 + x.bytes.length ≤ 1048576 := by omega
              have hmx : (pk.length + 4 + 4 + 4) + x.bytes.length ≤ maxLen := by unfold maxLen; omega
              clear hb1 hb2' hb3 hk1 hk2 hk3 hk12 hk13 hr1 hr2 hr3 ho1 ho2 ho3 O1 O1d K1 b1 b1d d0 d1 d2 d3
              go_wp2_with (at_builtin; refine wpList_append_any w3 rfl (.tmp 55) (.tmp 57) 22 rfl w.heap.size 5 i0 _ 1 1 Tryd.underlying22 hi0 hz0 hz1 hz2 rfl (by decide) _ _ _ rfl O3.out w3.heap.size x.A x.bytes.length x.c (bcells x.bytes) rfl R3.out h1c hmx (by omega) hs3' ?_; intro v' w6 hown6 hg6 hat6)
              have hgb6 := fun g e => (O3.out.lt g e).1
              have K6 := Lib.hid (K3.out.grown hg6 K3.out.size hgb6)
              have O6 : Hid (w6.ownsRow w.heap.size 5 1 v' (putC (L.take (k + 1))).length (bcells (putC (L.take (k + 1))))) := Lib.hid (by
                have hl : (putC (L.take (k + 1))).length = pk.length + 4 + 4 + 4 + x.bytes.length := by
                  rw [HP.out, List.length_append, List.length_append, List.length_append, List.length_append, wordI_len, wordI_len, wordI_len]; omega
                rw [hl, HP.out, bcells_append, bcells_append, bcells_append, bcells_append]
                simpa [List.append_assoc] using hown6)
              clear hown6 hg6 hat6
              go_roundw
              case rel => exact ⟨k + 1, by omega, by go_num, K6, O6⟩
              case measure => simp [intOf]; omega
          · have hltI : ¬ (k : Int) < n := by omega
            obtain rfl : n = k := by omega
            rw [List.take_of_length_le (by rw [HLN.out]; omega)] at O
            go_wp2
            go_ret2
            exact ⟨K.out, _, by rw [HE.out]; rfl, by rw [HR2.out]; exact O.out⟩
end Go.Proofs.YtljeecocbcffcaaDoor

/- A word's bytes and a command's bytes, by the reference, walked. -/
namespace Go.Proofs.YtljeecocbcffcaaDoor
open Go.RowKit
set_option linter.unusedSimpArgs false
set_option linter.unusedVariables false

theorem wordI_eq (v : Int) : bcells (wordI v) = [.int .u8 (v % 256), .int .u8 (v / 256 % 256), .int .u8 (v / 65536 % 256), .int .u8 (v / 16777216 % 256)] := by
  have e : bcells (wordI v) = [.int .u8 ((byteI v 0).toNat : Int), .int .u8 ((byteI v 1).toNat : Int), .int .u8 ((byteI v 2).toNat : Int), .int .u8 ((byteI v 3).toNat : Int)] := rfl
  rw [e, byteI0, byteI1, byteI2, byteI3]
theorem RetRow.lit {T n : Nat} {w : World} (cs : Array Value) {k : World} (hk : k = w.alloc (.cells cs T)) (hn : cs.size = n) (hm : n ≤ 1000000) : RetRow T 1 n cs.toList w (.returned (.slice (some ⟨w.heap.size, 0, none⟩) n n)) k := by
  subst hk
  refine ⟨_, rfl, ⟨by simpa using hn, .inr ⟨w.heap.size, n, cs, rfl, Nat.le_refl _, Blk.new w T cs, Nat.le_refl _, by unfold maxLen; omega, by omega, ?_⟩⟩, (Below.refl _ _).alloc (Nat.le_refl _) _⟩
  rw [List.take_of_length_le (by simp; omega)]
set_option maxRecDepth 100000 in
set_option maxHeartbeats 2000000 in
theorem rWord (v : Int) (hv : word32 v) (w : World) : Calls Tryd.prog 62 #[.int .i32 v] w (RetRow 5 1 4 (bcells (wordI v)) w) := by
  unfold word32 at hv
  rw [wordI_eq]
  have hu : 0 ≤ v % 4294967296 := by omega
  have h0 : v % 4294967296 % 256 = v % 256 := by omega
  have h1 : v % 4294967296 / 256 % 256 = v / 256 % 256 := by omega
  have h2 : v % 4294967296 / 65536 % 256 = v / 65536 % 256 := by omega
  have h3 : v % 4294967296 / 16777216 = v / 16777216 % 256 := by omega
  go_enter Tryd.func62, Tryd.ntmps62
  go_wp2
  go_ret
  exact RetRow.lit #[.int .u8 (v % 256), .int .u8 (v / 256 % 256), .int .u8 (v / 65536 % 256), .int .u8 (v / 16777216 % 256)] rfl rfl (by decide)
theorem bytes_one (l : List UInt8) : ∀ u ∈ bcells l, u.oneCell' = true := by
  intro u hu
  obtain ⟨z, -, rfl⟩ := List.mem_map.1 hu
  rfl
/-- A row that the call has laid, as a slice. -/
theorem RetRow.form {T n : Nat} {xs : List Value} {w w' : World} {e : Ending} (h : RetRow T 1 n xs w e w') : ∃ A c, e = .returned (.slice A n c) ∧ w'.ownsRow w.heap.size T 1 (.slice A n c) n xs ∧ Below w.heap.size w w' := by
  obtain ⟨v, rfl, h1, h2⟩ := h
  obtain ⟨A, c, rfl⟩ := own_form h1
  exact ⟨A, c, rfl, h1, h2⟩
set_option maxRecDepth 100000 in
set_option maxHeartbeats 4000000 in
theorem rOne38 (x : CmdV) (hk255 : x.kind ≤ 255) (ha : word32 x.at_) (hd : word32 x.dst) (hm : mayC x.val = true) (w : World) (hr : Reads w w.heap.size 1 x.A x.bytes.length (bcells x.bytes)) :
    Calls Tryd.prog 43 #[.agg x.cells] w (RetRow 5 1 (12 + x.bytes.length) (bcells (oneC x.val)) w) := by
  have h65 : x.bytes.length ≤ 65536 := mayC_len hm
  have hP := oneC_val x
  have hth : word32 (if x.kind = 0 then x.dst else (x.bytes.length : Int)) := by
    split
    · exact hd
    · unfold word32; omega
  have hnb : x.kind = 0 → x.bytes = [] := fun h => mayC_none hm h
  obtain ⟨i0, hi0, hz0, hz1, hz2⟩ := info_parts byte_info
  have HR := Lib.hid hr
  have HKW := Lib.hid (show word32 (x.kind : Int) by unfold word32; omega)
  have HAW := Lib.hid ha
  have b0 := Blk.new w 38 x.cells
  have k0 : Below w.heap.size w (w.alloc (.cells x.cells 38)) := (Below.refl _ _).alloc (Nat.le_refl _) _
  have hwz : IntKind.i32.wrap (x.kind : Int) = (x.kind : Int) := by rw [IntKind.wrap_i32]; omega
  have hkz0 : ((x.kind : Int) == 0) = decide (x.kind = 0) := by rw [Bool.eq_iff_iff]; simp
  have hkb0 : (0 : Int) ≤ (x.kind : Int) := by omega
  have hkb1 : (x.kind : Int) ≤ 255 := by omega
  simp only [CmdV.cells, cmdC] at b0 k0 ⊢
  obtain ⟨wn, hwn⟩ : ∃ W, w.alloc (.cells #[.int .u8 x.kind, .int .i32 x.at_, .int .i32 x.dst, .slice x.A x.bytes.length x.c] 38) = W := ⟨_, rfl⟩
  obtain ⟨g, hg⟩ : ∃ g, w.heap.size = g := ⟨_, rfl⟩
  rw [hwn] at b0 k0
  rw [hg] at b0
  have K0 := Lib.hid k0
  have HG := Lib.hid hg
  clear hr ha hm k0 hk255
  generalize (x.kind : Int) = kz at *
  go_enter Tryd.func43, Tryd.ntmps43
  go_upto_region 1 with (fail)
  clear hg hwn
  have hgs : g < wn.drew.heap.size := b0.lt
  have d0 := b0.cell 0
  have d1 := b0.cell 1
  simp at d0 d1
  have z0 : w.heap.size ≤ wn.drew.heap.size := K0.out.size
  have hKD : Hid (Below w.heap.size w wn.drew) := Lib.hid K0.out.drew
  have b0d : Blk wn.drew g 38 #[.int .u8 kz, .int .i32 x.at_, .int .i32 x.dst, .slice x.A x.bytes.length x.c] := b0
  have hw1 := (rWord kz HKW.out wn.drew).mono fun _ _ h => h.form
  have hw2 := fun w1 : World => (rWord x.at_ HAW.out w1).mono fun _ _ h => h.form
  have HW1 := Lib.hid hw1
  have HW2 := Lib.hid hw2
  clear hw1 hw2 b0 K0
  go_region_held3 (fun w' => w'.cell? ⟨g, 0, none⟩ = some (.int .u8 kz) ∧ w'.cell? ⟨g, 1, none⟩ = some (.int .i32 x.at_)) (first | exact ⟨d0, d1⟩ | exact ⟨(b0d.call hb1).cell 0, (b0d.call hb1).cell 1⟩ | exact ⟨((b0d.call hb1).call hb2).cell 0, ((b0d.call hb1).call hb2).cell 1⟩ | exact ⟨b3.cell 0, b3.cell 1⟩)
    (first
     | (go_at_call 62; (with_reducible refine HW1.out.mono ?_); rintro e w1 ⟨A1, c1, rfl, ho1, hb1⟩)
     | (go_at_call 62; (with_reducible refine (HW2.out w1).mono ?_); rintro e w2 ⟨A2, c2, rfl, ho2, hb2⟩
        have O2 := Lib.hid (World.ownsRow.weak (ho1.keep hb2 (Nat.le_refl _)) z0)
        have K2 := Lib.hid ((hKD.out.trans (hb1.mono z0)).trans (hb2.mono (Nat.le_trans z0 hb1.size)))
        have b2 := (b0d.call hb1).call hb2
        have R2 := Reads.of_own ho2
        have hne : some g ≠ (Value.slice A1 4 c1).ownBlock := fun e => by have := (ho1.lt g e.symm).1; omega
        have z2 : w.heap.size ≤ w2.heap.size := K2.out.size)
     | (refine step_append_any w2 rfl (.tmp 7) (.tmp 10) 22 rfl w.heap.size 5 i0 _ 1 1 Tryd.underlying22 hi0 hz0 hz1 hz2 rfl (by decide) _ _ _ rfl O2.out w2.heap.size A2 4 c2 (bcells (wordI x.at_)) rfl R2 (bytes_one _) (by unfold maxLen; omega) (by omega) z2 ?_
        intro v3 w3 ho3 hg3 hat3
        have b3 := b2.grown hg3 hne))
  have hne3 : some g ≠ v3.ownBlock := fun e => by
    rcases hat3 with h | h
    · exact hne (by rw [e, h]; rfl)
    · rw [h] at e; injection e with e; have := b2.lt; omega
  have K3 := Lib.hid (K2.out.grown hg3 z2 (fun g e => (O2.out.lt g e).1))
  have O3 := Lib.hid ho3
  clear hg3 hat3 ho3 O2 K2 b2 R2 ho1 ho2 hb1 hb2 HW1 HW2 d0 d1 b0d hKD
  have z3 : w.heap.size ≤ w3.heap.size := K3.out.size
  have p0 := b3.cell 0
  have p2 := b3.cell 2
  have p3 := b3.cell 3
  simp at p0 p2 p3
  by_cases hk0 : x.kind = 0
  · rw [if_pos hk0, hnb hk0] at hP
    have hbl0 : x.bytes.length = 0 := by rw [hnb hk0]; rfl
    have hki : (kz == 0) = true := by rw [hkz0, decide_eq_true hk0]
    have HP := Lib.hid hP
    have HTW := Lib.hid hd
    have HBL := Lib.hid hbl0
    clear hP hkz0 hk0 hnb hth hbl0
    go_wp2_with (first
      | (go_at_call 62; refine ((rWord x.dst HTW.out w3).mono fun _ _ h => h.form).mono ?_; rintro e w4 ⟨A4, c4, rfl, ho4, hb4⟩
         have K4 := Lib.hid (K3.out.trans (hb4.mono z3))
         have b4 := b3.call hb4
         have p40 := b4.cell 0
         have p43 := b4.cell 3
         simp at p40 p43
         have O4 := Lib.hid (O3.out.keep hb4 (Nat.le_refl _))
         have z4 : w.heap.size ≤ w4.heap.size := K4.out.size
         have R4 := Reads.of_own ho4
         clear hb4 ho4)
      | (at_builtin; refine wpList_append_any w4 rfl (.tmp 15) (.tmp 18) 22 rfl w.heap.size 5 i0 _ 1 1 Tryd.underlying22 hi0 hz0 hz1 hz2 rfl (by decide) _ _ _ rfl O4.out w4.heap.size A4 4 c4 (bcells (wordI x.dst)) rfl R4 (bytes_one _) (by unfold maxLen; omega) (by omega) z4 ?_; intro v5 w5 ho5 hg5 hat5
         have hgb5 := fun g e => (O4.out.lt g e).1
         have K5 := Lib.hid (K4.out.grown hg5 K4.out.size hgb5)
         have b5 := b4.grown hg5 hne3
         have O5 := Lib.hid ho5
         have z5 : w.heap.size ≤ w5.heap.size := K5.out.size
         have p53 := b5.cell 3
         simp at p53
         have R5 := Lib.hid ((HR.out.below K5.out).more K5.out.size)
         clear ho5 hg5))
    go_ret
    have hfin : w5.ownsRow w.heap.size 5 1 v5 (12 + x.bytes.length) (bcells (oneC x.val)) := by
      rw [HBL.out, HP.out, bcells_append, bcells_append, List.append_nil, ← List.append_assoc]
      exact O5.out
    exact RetRow.mk hfin (Nat.le_refl _) K5.out
  · rw [if_neg hk0] at hP
    have hki : (kz == 0) = false := by rw [hkz0, decide_eq_false hk0]
    have hwl : IntKind.i32.wrap (x.bytes.length : Int) = (x.bytes.length : Int) := by rw [IntKind.wrap_i32]; omega
    have HP := Lib.hid hP
    have HTW : Hid (word32 (x.bytes.length : Int)) := Lib.hid (by unfold word32; omega)
    clear hP hkz0 hk0 hnb hth
    go_wp2_with (first
      | (go_at_call 62; refine ((rWord (x.bytes.length : Int) HTW.out w3).mono fun _ _ h => h.form).mono ?_; rintro e w4 ⟨A4, c4, rfl, ho4, hb4⟩
         have K4 := Lib.hid (K3.out.trans (hb4.mono z3))
         have b4 := b3.call hb4
         have p40 := b4.cell 0
         have p43 := b4.cell 3
         simp at p40 p43
         have O4 := Lib.hid (O3.out.keep hb4 (Nat.le_refl _))
         have z4 : w.heap.size ≤ w4.heap.size := K4.out.size
         have R4 := Reads.of_own ho4
         clear hb4 ho4)
      | (at_builtin; refine wpList_append_any w4 rfl (.tmp 20) (.tmp 25) 22 rfl w.heap.size 5 i0 _ 1 1 Tryd.underlying22 hi0 hz0 hz1 hz2 rfl (by decide) _ _ _ rfl O4.out w4.heap.size A4 4 c4 (bcells (wordI (x.bytes.length : Int))) rfl R4 (bytes_one _) (by unfold maxLen; omega) (by omega) z4 ?_; intro v5 w5 ho5 hg5 hat5
         have hgb5 := fun g e => (O4.out.lt g e).1
         have K5 := Lib.hid (K4.out.grown hg5 K4.out.size hgb5)
         have b5 := b4.grown hg5 hne3
         have O5 := Lib.hid ho5
         have z5 : w.heap.size ≤ w5.heap.size := K5.out.size
         have p53 := b5.cell 3
         simp at p53
         have R5 := Lib.hid ((HR.out.below K5.out).more K5.out.size)
         clear ho5 hg5)
      | (at_builtin; refine wpList_append_any w5 rfl (.tmp 27) (.tmp 29) 22 rfl w.heap.size 5 i0 _ 1 1 Tryd.underlying22 hi0 hz0 hz1 hz2 rfl (by decide) _ _ _ rfl O5.out w5.heap.size x.A x.bytes.length x.c (bcells x.bytes) rfl R5.out (bytes_one _) (by unfold maxLen; omega) (by omega) z5 ?_; intro v6 w6 ho6 hg6 hat6
         have hgb6 := fun g e => (O5.out.lt g e).1
         have K6 := Lib.hid (K5.out.grown hg6 K5.out.size hgb6)
         clear hg6))
    go_ret
    have hfin : w6.ownsRow w.heap.size 5 1 v6 (12 + x.bytes.length) (bcells (oneC x.val)) := by
      rw [HP.out, bcells_append, bcells_append, bcells_append, ← List.append_assoc, ← List.append_assoc]
      exact ho6
    exact RetRow.mk hfin (Nat.le_refl _) K6.out
end Go.Proofs.YtljeecocbcffcaaDoor

/- number and Same of the reference, walked; lists of commands of the call's own. -/
namespace Go.Proofs.YtljeecocbcffcaaDoor
open Go.RowKit
set_option linter.unusedSimpArgs false
set_option linter.unusedVariables false

/-- A slice of commands of the call's own, whose bytes are its own too. -/
def OwnL (w : World) (B : Nat) (v : Value) (l : List CmdV) : Prop :=
  w.ownsRow B 38 4 v l.length (cmdsV l) ∧ ∀ x ∈ l, x.kind ≤ 255 ∧ word32 x.at_ ∧ word32 x.dst ∧ w.ownsRow B 5 1 (.slice x.A x.bytes.length x.c) x.bytes.length (bcells x.bytes)
section
variable {w w' : World} {B : Nat} {v : Value} {l : List CmdV}
theorem OwnL.nil : OwnL w B (.slice none 0 0) [] := ⟨World.ownsRow_nil _ _ _ _, fun x hx => by cases hx⟩
theorem OwnL.map {v' : Value} (h : OwnL w B v l) (h1 : w'.ownsRow B 38 4 v' l.length (cmdsV l)) (h2 : ∀ (u : Value) (n : Nat) (xs : List Value), w.ownsRow B 5 1 u n xs → w'.ownsRow B 5 1 u n xs) : OwnL w' B v' l :=
  ⟨h1, fun x hx => ⟨(h.2 x hx).1, (h.2 x hx).2.1, (h.2 x hx).2.2.1, h2 _ _ _ (h.2 x hx).2.2.2⟩⟩
theorem OwnL.call (h : OwnL w B v l) (hb : Below w.heap.size w w') : OwnL w' B v l := h.map (h.1.below hb) fun _ _ _ h => h.below hb
theorem OwnL.drewN (h : OwnL w B v l) (n : Nat) : OwnL (w.drewN n) B v l := h
theorem OwnL.drew (h : OwnL w B v l) : OwnL w.drew B v l := h
theorem OwnL.alloc (h : OwnL w B v l) (o : Obj) : OwnL (w.alloc o) B v l := h.map (h.1.alloc o) fun _ _ _ h => h.alloc o
theorem OwnL.far (h : OwnL w B v l) {p : Addr} (hp : p.block < B) (u : Value) : OwnL (w.setCell p u) B v l :=
  h.map (ownsRow_setCell_below h.1 hp u) fun _ _ _ h => ownsRow_setCell_below h hp u
theorem own_kept {e size n : Nat} {u : Value} {xs : List Value} {row : Option Nat} (h : w.ownsRow B e size u n xs) (hk : KeptB w w' row) (hr : ∀ g, u.ownBlock = some g → some g ≠ row) : w'.ownsRow B e size u n xs := by
  refine ⟨h.1, ?_⟩
  rcases h.2 with hn | ⟨g, cap, cur, rfl, hb, hg, rest⟩
  · exact .inl hn
  · exact .inr ⟨g, cap, cur, rfl, hb, (hk.2 g (Array.getElem?_eq_some_iff.1 hg).1 (hr g rfl)).trans hg, rest⟩
/-- All but one block is kept, and that one is of another kind. -/
theorem OwnL.kept {row : Option Nat} (h : OwnL w B v l) (hk : KeptB w w' row) (h1 : ∀ g, v.ownBlock = some g → some g ≠ row) (h2 : ∀ x ∈ l, ∀ g, (Value.slice x.A x.bytes.length x.c).ownBlock = some g → some g ≠ row) : OwnL w' B v l :=
  ⟨own_kept h.1 hk h1, fun x hx => ⟨(h.2 x hx).1, (h.2 x hx).2.1, (h.2 x hx).2.2.1, own_kept (h.2 x hx).2.2.2 hk (h2 x hx)⟩⟩
theorem KeptB.of_grown {row : Option Nat} (hg : w.grownBy w' row) : KeptB w w' row := ⟨hg.size, fun k hk hr => hg.block k hk hr⟩
theorem OwnL.reads {A : Option Addr} {n c : Nat} (h : OwnL w B (.slice A n c) l) (hn : n = l.length) : Reads w w.heap.size 4 A l.length (cmdsV l) ∧ VsOk w w.heap.size l := by
  subst hn
  exact ⟨Reads.of_own h.1, fun x hx => ⟨(h.2 x hx).1, (h.2 x hx).2.1, (h.2 x hx).2.2.1, Reads.of_own (h.2 x hx).2.2.2⟩⟩
end
theorem rows_ne {w : World} {B e size n B' e' size' n' : Nat} {v v' : Value} {xs xs' : List Value} (h : w.ownsRow B e size v n xs) (h' : w.ownsRow B' e' size' v' n' xs') (hne : e ≠ e') : ∀ g, v.ownBlock = some g → some g ≠ v'.ownBlock := by
  intro g hg
  rcases h.2 with ⟨rfl, _⟩ | ⟨g1, cap, cur, rfl, hb, hh, rest⟩
  · simp [Value.ownBlock] at hg
  · have : g1 = g := by simpa [Value.ownBlock] using hg
    subst this
    exact fun e1 => own_blk_ne h' (show Blk w g1 e cur from hh) (fun e => hne e.symm) e1.symm
theorem cmd_info : (Tryd.prog.info? 38).map (fun i => (i.zero, i.size, i.bytes)) = some (some (.agg #[.int .u8 0, .int .i32 0, .int .i32 0, .slice none 0 0]), 4, 40) := by kernel_rfl
/-- One more command. -/
theorem OwnL.snoc {w w' : World} {B : Nat} {v v' : Value} {acc : List CmdV} {x : CmdV} (h : OwnL w B v acc) (hg : w.grownBy w' v.ownBlock) (ho : w'.ownsRow B 38 4 v' (acc.length + 1) (cmdsV acc ++ x.cells.toList))
    (hk : x.kind ≤ 255) (ha : word32 x.at_) (hd : word32 x.dst) (hx : w.ownsRow B 5 1 (.slice x.A x.bytes.length x.c) x.bytes.length (bcells x.bytes)) : OwnL w' B v' (acc ++ [x]) := by
  have hK := KeptB.of_grown hg
  refine ⟨?_, fun y hy => ?_⟩
  · rw [cmdsV_append, List.length_append]
    have e : cmdsV [x] = x.cells.toList := by simp [cmdsV]
    rw [e]; exact ho
  · rcases List.mem_append.1 hy with hy | hy
    · obtain ⟨h1, h2, h3, h4⟩ := h.2 y hy
      exact ⟨h1, h2, h3, own_kept h4 hK (rows_ne h4 h.1 (by decide))⟩
    · rw [List.mem_singleton] at hy
      subst hy
      exact ⟨hk, ha, hd, own_kept hx hK (rows_ne hx h.1 (by decide))⟩
theorem OwnL.grownNil {w w' : World} {B : Nat} {v : Value} {acc : List CmdV} (h : OwnL w B v acc) (hg : w.grownBy w' none) : OwnL w' B v acc :=
  h.kept (KeptB.of_grown hg) (fun _ _ e => by cases e) (fun _ _ _ _ e => by cases e)
/-- What Get returns. -/
def RetGet (RT : Option (List CmdL × List UInt8)) (w : World) (e : Ending) (w' : World) : Prop :=
  Below w.heap.size w w' ∧ match RT with
    | none => e = .returned (.tuple #[.slice none 0 0, .slice none 0 0, .int .i64 380])
    | some p => ∃ v u ls, e = .returned (.tuple #[v, u, .int .i64 0]) ∧ vals ls = p.1 ∧ OwnL w' w.heap.size v ls ∧ w'.ownsRow w.heap.size 5 1 u p.2.length (bcells p.2)
theorem RetGet.none_ {w w' : World} (h : Below w.heap.size w w') : RetGet none w (.returned (.tuple #[.slice none 0 0, .slice none 0 0, .int .i64 380])) w' := ⟨h, rfl⟩
theorem RetGet.some_ {w w' : World} {v u : Value} {ls : List CmdV} {r : List UInt8} (h : Below w.heap.size w w') (h1 : OwnL w' w.heap.size v ls) (h2 : w'.ownsRow w.heap.size 5 1 u r.length (bcells r)) : RetGet (some (vals ls, r)) w (.returned (.tuple #[v, u, .int .i64 0])) w' :=
  ⟨h, v, u, ls, rfl, rfl, h1, h2⟩
/-- The commands with which bytes begin. -/
def getB (b : List UInt8) : Option (List CmdL × List UInt8) := getC b.length b
theorem getB_none {b : List UInt8} (h : headC b = none) : getB b = none := by
  unfold getB
  cases hl : b.length with
  | zero => rfl
  | succ k => rw [getC, h]
theorem getB_short {b : List UInt8} (h : b.length < 12) : getB b = none := getC_short h _
theorem getB_some {b : List UInt8} {c : CmdL} {n : Nat} (h : headC b = some (c, n)) : getB b = if c.kind = 0 then some ([c], b.drop n) else (getB (b.drop n)).map fun p => (c :: p.1, p.2) := by
  obtain ⟨-, -, -, -, h12, hn⟩ := headC_back h
  unfold getB
  obtain ⟨k, hk⟩ : ∃ k, b.length = k + 1 := ⟨b.length - 1, by omega⟩
  rw [hk, getC, h]
  simp only
  split
  · rfl
  · rw [getC_more (b.drop n).length k _ (Nat.le_refl _) (by rw [List.length_drop]; omega)]
theorem numW_cells {l : List UInt8} (h : 4 ≤ l.length) : ∃ a b c d : UInt8, l[0]? = some a ∧ l[1]? = some b ∧ l[2]? = some c ∧ l[3]? = some d ∧ numW l = a.toNat + 256 * b.toNat + 65536 * c.toNat + 16777216 * d.toNat := by
  match l, h with
  | a :: b :: c :: d :: r, _ => exact ⟨a, b, c, d, rfl, rfl, rfl, rfl, rfl⟩
set_option maxRecDepth 100000 in
set_option maxHeartbeats 4000000 in
theorem rNumber38 (l : List UInt8) (h4 : 4 ≤ l.length) (A : Option Addr) (c : Nat) (w : World) (hr : Reads w w.heap.size 1 A l.length (bcells l)) :
    Calls Tryd.prog 45 #[.slice A (l.length : Nat) c] w (RetV (.int .i64 (numW l : Nat)) w) := by
  obtain ⟨x0, x1, x2, x3, h0, h1, h2, h3, hN⟩ := numW_cells h4
  obtain ⟨b, off, rfl, hb, hc⟩ := hr.addr (by omega) (by omega)
  have c0 := hc 0 _ (bcells_get h0)
  have c1 := hc 1 _ (bcells_get h1)
  have c2 := hc 2 _ (bcells_get h2)
  have c3 := hc 3 _ (bcells_get h3)
  rw [Nat.add_zero] at c0
  have z0 : x0.toNat < 256 := UInt8.toNat_lt_size _
  have z1 : x1.toNat < 256 := UInt8.toNat_lt_size _
  have z2 : x2.toNat < 256 := UInt8.toNat_lt_size _
  have z3 : x3.toNat < 256 := UInt8.toNat_lt_size _
  rw [hN]
  have l0 : (0 : Int) < (l.length : Nat) := by omega
  have l1 : (1 : Int) < (l.length : Nat) := by omega
  have l2 : (2 : Int) < (l.length : Nat) := by omega
  have l3 : (3 : Int) < (l.length : Nat) := by omega
  clear hc hr h0 h1 h2 h3 hN h4
  generalize l.length = n at *
  generalize x0.toNat = y0 at *
  generalize x1.toNat = y1 at *
  generalize x2.toNat = y2 at *
  generalize x3.toNat = y3 at *
  go_enter Tryd.func45, Tryd.ntmps45
  go_wp2
  go_quiet (fail)
  go_wp2
  go_ret
  exact ⟨by simp, below_drewN (Below.refl _ _) nq⟩
/-- Equal commands are found equal. -/
theorem vals_at {xs ys : List CmdV} (h : vals xs = vals ys) {k : Nat} {x y : CmdV} (hx : xs[k]? = some x) (hy : ys[k]? = some y) : x.kind = y.kind ∧ x.at_ = y.at_ ∧ x.dst = y.dst ∧ x.bytes = y.bytes := by
  have h1 := vals_get hx
  rw [h, vals_get hy] at h1
  have e := Option.some.inj h1
  unfold CmdV.val at e
  injection e with e1 e2 e3 e4
  exact ⟨e1.symm, e2.symm, e3.symm, e4.symm⟩
set_option maxRecDepth 100000 in
set_option maxHeartbeats 4000000 in
theorem sCmds (xs ys : List CmdV) (h : vals xs = vals ys) (hn : xs.length ≤ 1000000) (A B : Option Addr) (c d : Nat) (w : World) (hx : Reads w w.heap.size 4 A xs.length (cmdsV xs)) (hvx : VsOk w w.heap.size xs)
    (hy : Reads w w.heap.size 4 B ys.length (cmdsV ys)) (hvy : VsOk w w.heap.size ys) :
    Calls Tryd.prog 23 #[.slice A (xs.length : Nat) c, .slice B (ys.length : Nat) d] w (RetV (.bool true) w) := by
  have hlen : xs.length = ys.length := by rw [← vals_len xs, h, vals_len]
  have HX := Lib.hid hx
  have HY := Lib.hid hy
  have HVX := Lib.hid hvx
  have HVY := Lib.hid hvy
  have HH := Lib.hid h
  obtain ⟨n, hnn⟩ : ∃ n, ys.length = n := ⟨_, rfl⟩
  rw [hlen, hnn] at HX
  rw [hnn] at HY
  rw [hlen, hnn] at hn ⊢
  have hne : ((n : Int) != (n : Int)) = false := by simp
  clear hx hy hvx hvy h hlen hnn
  go_enter Tryd.func23, Tryd.ntmps23
  go_wp2
  go_loopw [5] (fun i wr => ∃ k : Nat, k ≤ n ∧ i = .int .i64 k ∧ ∃ q, wr = w.drewN q) (fun i _ => n - (intOf i).toNat)
  case atStart => exact ⟨0, by omega, rfl, 0, rfl⟩
  case round =>
    obtain ⟨k, hk, rfl, q, rfl⟩ := hrel
    by_cases hlt : k < n
    · have hltI : (k : Int) < n := by omega
      obtain ⟨b1, o1, x, rfl, hb1, hx, c0, c1, c2, c3⟩ := cmds_at HX.out hlt
      obtain ⟨b2, o2, y, rfl, hb2, hy, d0, d1, d2, d3⟩ := cmds_at HY.out hlt
      obtain ⟨e1, e2, e3, e4⟩ := vals_at HH.out hx hy
      have hcx : ∀ q, (convert 22 9 (.slice x.A x.bytes.length x.c)).run Tryd.prog (w.drewN q) = .ok (.string (strB x.bytes)) (w.drewN q) := fun q => conv_back ((HVX.out x (List.mem_of_getElem? hx)).2.2.2.drewN q)
      have hcy : ∀ q, (convert 22 9 (.slice y.A x.bytes.length y.c)).run Tryd.prog (w.drewN q) = .ok (.string (strB x.bytes)) (w.drewN q) := fun q => by
        have := (HVY.out y (List.mem_of_getElem? hy)).2.2.2
        rw [← e4] at this
        exact conv_back (this.drewN q)
      rw [← e1] at d0
      rw [← e2] at d1
      rw [← e3] at d2
      rw [← e4] at d3
      generalize x.bytes.length = bl at *
      generalize strB x.bytes = SB at *
      have n1 : ((x.kind : Int) != (x.kind : Int)) = false := by simp
      have n2 : (x.at_ != x.at_) = false := by simp
      have n3 : (x.dst != x.dst) = false := by simp
      have n4 : (SB.toList != SB.toList) = false := by simp
      clear hx hy e1 e2 e3 e4
      go_upto_region 6 with (fail)
      go_quiet (fail)
      go_wp2
      go_roundw
      case rel => exact ⟨k + 1, by omega, by go_num, _, rfl⟩
      case measure => simp [intOf]; omega
    · have hltI : ¬ (k : Int) < n := by omega
      go_wp2
      go_ret
      exact ⟨rfl, below_drewN (Below.refl _ _) q⟩
end Go.Proofs.YtljeecocbcffcaaDoor
