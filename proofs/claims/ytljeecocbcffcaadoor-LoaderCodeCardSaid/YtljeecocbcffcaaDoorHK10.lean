/- Texts that belong together, joined: what each one holds is told ahead of it. -/
import Derived.Test.YtljeecocbcffcaaDoorHK7
import Derived.Test.YtljeecocbcffcaaDoorHK1
import Derived.Test.YtljeecocbcffcaaDoorHK9
/- The reference's encoding, walked. -/
namespace Go.Proofs.YtljeecocbcffcaaDoor
open Go.RowKit Go.Maps Go.WideMaps Go.Shelf
set_option linter.unusedSimpArgs false
set_option linter.unusedVariables false

end Go.Proofs.YtljeecocbcffcaaDoor

/- Operand and Need of the reference, walked. -/
namespace Go.Proofs.YtljeecocbcffcaaDoor
open Go.RowKit Go.Maps Go.WideMaps Go.Shelf
set_option linter.unusedSimpArgs false
set_option linter.unusedVariables false

end Go.Proofs.YtljeecocbcffcaaDoor

/- Need of the reference, walked. -/
namespace Go.Proofs.YtljeecocbcffcaaDoor
open Go.RowKit Go.Maps Go.WideMaps Go.Shelf
set_option linter.unusedSimpArgs false
set_option linter.unusedVariables false

theorem val9_is32 {os : List Opd} (hf : Fit os) {L : List Nat} (h : ∀ i, L.getD i 0 ≤ 9) {i : Nat} {o : Opd} (ho : os[i]? = some o) : is32 (valO L o) := by
  have h1 := hf.2 o (List.mem_of_getElem? ho)
  cases o with
  | inl v => exact h1
  | inr p =>
    obtain ⟨t, f⟩ := p
    simp only at h1
    have a := adr_le9 h t
    have b := adr_le9 h f
    have c := hf.1
    show _ ∧ _
    simp only [valO]; omega
theorem needL_take {os : List Opd} {L : List Nat} {k : Nat} {o : Opd} (h : os[k]? = some o) : (needL os L).take (k + 1) = (needL os L).take k ++ [lenV (valO L o)] := by
  rw [List.take_add_one]
  simp [needL, h]
theorem ncells_append (a b : List Nat) : ncells (a ++ b) = ncells a ++ ncells b := by simp [ncells]
end Go.Proofs.YtljeecocbcffcaaDoor

/- Check of the reference, walked. -/
namespace Go.Proofs.YtljeecocbcffcaaDoor
open Go.RowKit Go.Maps Go.WideMaps Go.Shelf
set_option linter.unusedSimpArgs false
set_option linter.unusedVariables false

theorem ok_no1 {ls : List LineL} {k : Nat} {x : LineL} {a : Int} (ha : atI ls x.label = a) (hz : x.label.isEmpty = false) (h : (a != (k : Int)) = true) : okL ls k x = false := by
  unfold okL
  rw [atI_some, ha, hz]
  have : (a == (k : Int)) = false := by simpa using h
  rw [this]; rfl
theorem ok_no2 {ls : List LineL} {k : Nat} {x : LineL} {a : Int} (ha : atI ls x.target = a) (hz : x.target.isEmpty = false) (h : a < 0) : okL ls k x = false := by
  unfold okL
  have : (atL ls x.target).isSome = false := by rw [atI_neg, ha]; simp [h]
  rw [this, hz]; simp
theorem ok_no3 {ls : List LineL} {k : Nat} {x : LineL} {a : Int} (ha : atI ls x.frm = a) (hz : x.frm.isEmpty = false) (h : a < 0) : okL ls k x = false := by
  unfold okL
  have : (atL ls x.frm).isSome = false := by rw [atI_neg, ha]; simp [h]
  rw [this, hz]; simp
theorem ok_yes {ls : List LineL} {k : Nat} {x : LineL} {a b c : Int} (ha : atI ls x.label = a) (hb : atI ls x.target = b) (hc : atI ls x.frm = c) (h1 : x.label.isEmpty = true ∨ (a != (k : Int)) = false) (h2 : x.target.isEmpty = true ∨ ¬ b < 0) (h3 : x.frm.isEmpty = true ∨ ¬ c < 0) : okL ls k x = true := by
  unfold okL
  rw [atI_some, ha]
  rw [atI_neg, atI_neg, hb, hc]
  have e1 : (x.label.isEmpty || a == (k : Int)) = true := by
    rcases h1 with h | h
    · simp [h]
    · have : (a == (k : Int)) = true := by simpa using h
      simp [this]
  have e2 : (x.target.isEmpty || !decide (b < 0)) = true := by
    rcases h2 with h | h
    · simp [h]
    · simp [h]
  have e3 : (x.frm.isEmpty || !decide (c < 0)) = true := by
    rcases h3 with h | h
    · simp [h]
    · simp [h]
  rw [e1, e2, e3]; rfl
end Go.Proofs.YtljeecocbcffcaaDoor

/- Lengths of the reference, walked. -/
namespace Go.Proofs.YtljeecocbcffcaaDoor
open Go.RowKit Go.Maps Go.WideMaps Go.Shelf
set_option linter.unusedSimpArgs false
set_option linter.unusedVariables false

def sumAt (w : World) (g o : Nat) : Nat → Nat
  | 0 => 0
  | k + 1 => sumAt w g o k + (match w.cell? ⟨g, o + k, none⟩ with | some v => (intOf v).toNat | none => 0)
/-- How much the lengths of a slice may still grow. -/
def roomV (n : Nat) (v : Value) (w : World) : Nat := match v with
  | .slice (some ⟨g, o, none⟩) _ _ => 8 * n + 1 - sumAt w g o n
  | _ => 8 * n + 1
theorem roomV_eq {w : World} {B n : Nat} {v : Value} {L : List Nat} (h : w.ownsRow B 3 1 v n (ncells L)) : roomV n v w = 8 * n + 1 - adr L n := by
  have hl : L.length = n := by have := h.1; rw [ncells_len] at this; omega
  rcases h.2 with ⟨rfl, rfl⟩ | ⟨g, cap, cur, rfl, hb, hg, hc, hm, hs, ht⟩
  · have : L = [] := List.eq_nil_of_length_eq_zero hl
    subst this; rfl
  · have key : ∀ k, k ≤ n → sumAt w g 0 k = adr L k := by
      intro k
      induction k with
      | zero => intro _; rfl
      | succ k ih =>
        intro hk
        obtain ⟨b, off, x, e, -, hx, c⟩ := nums_at (Reads.of_own h) (show k < n by omega)
        injection e with e; injection e with e1 e2
        subst e1 e2
        rw [sumAt, ih (by omega), c, adr, List.getD_eq_getElem?_getD, hx]
        simp [intOf]
    simp only [roomV]
    rw [key n (Nat.le_refl _)]
def RetLenR (ls : List LineL) (w : World) (e : Ending) (w' : World) : Prop :=
  Below w.heap.size w w' ∧ ((checkE ls = 0 ∧ ∃ v, e = .returned (.tuple #[v, .int .i64 0]) ∧ w'.ownsRow w.heap.size 3 1 v ls.length (ncells (fixL (opds ls)))) ∨
    (checkE ls ≠ 0 ∧ e = .returned (.tuple #[.slice none 0 0, .int .i64 (checkE ls)])))
theorem ones_snoc (k : Nat) : ncells (ones (k + 1)) = ncells (ones k) ++ [.int .i64 1] := by
  unfold ones ncells
  rw [List.replicate_succ']
  simp
theorem below_run {os : List Opd} (hf : Fit os) {L : List Nat} (h1 : LE L (fixL os)) : LE (needL os L) (fixL os) := by
  have := needL_mono os h1
  rwa [(fixL_fix hf).1] at this
theorem le_get {L M : List Nat} (h : LE L M) (h8 : ∀ i, M.getD i 0 ≤ 8) : ∀ i, L.getD i 0 ≤ 8 := fun i => Nat.le_trans (h.2 i) (h8 i)
end Go.Proofs.YtljeecocbcffcaaDoor

/- An instruction's bytes are decoded as that instruction, whatever follows. -/
namespace Go.Proofs.YtljeecocbcffcaaDoor

/-- The state of the operand behind a prefix byte. -/
def pfxS (o : Int) (c : UInt8) : Int := if c.toNat / 16 = 2 then 16 * (o + (c.toNat % 16 : Nat)) else 16 * (-1 - (o + (c.toNat % 16 : Nat)))
def isPfx (c : UInt8) : Bool := c.toNat / 16 == 2 || c.toNat / 16 == 6
theorem byte_nat {fn d : Nat} (h1 : fn < 16) (h2 : d < 16) : (UInt8.ofNat (16 * fn + d)).toNat = 16 * fn + d := by
  rw [UInt8.toNat_ofNat']; exact Nat.mod_eq_of_lt (by omega)
theorem byte_parts {fn d : Nat} (h1 : fn < 16) (h2 : d < 16) : (UInt8.ofNat (16 * fn + d)).toNat / 16 = fn ∧ (UInt8.ofNat (16 * fn + d)).toNat % 16 = d := by
  rw [byte_nat h1 h2]; omega
/-- The bytes of a prefix. -/
theorem encF_pfx : ∀ (k m : Nat), m < 16 ^ (k + 1) → (∀ c ∈ encF k 2 m, isPfx c = true) ∧ (encF k 2 m).foldl pfxS 0 = 16 * (m : Int)
  | 0, m, h => by
    have hm : m < 16 := by simpa using h
    obtain ⟨h1, h2⟩ := byte_parts (fn := 2) (d := m % 16) (by omega) (by omega)
    refine ⟨fun c hc => ?_, ?_⟩
    · rw [encF, List.mem_singleton] at hc
      rw [hc]; unfold isPfx; rw [h1]; rfl
    · rw [encF, List.foldl_cons, List.foldl_nil, pfxS, h1, h2, if_pos rfl]; omega
  | k + 1, m, h => by
    obtain ⟨h1, h2⟩ := byte_parts (fn := 2) (d := m % 16) (by omega) (by omega)
    rw [encF]
    split
    · obtain ⟨a, b⟩ := encF_pfx k (m / 16) (by rw [Nat.div_lt_iff_lt_mul (by decide)]; rw [Nat.pow_succ] at h; exact h)
      refine ⟨fun c hc => ?_, ?_⟩
      · rcases List.mem_append.1 hc with hc | hc
        · exact a c hc
        · rw [List.mem_singleton.1 hc]; unfold isPfx; rw [h1]; rfl
      · rw [List.foldl_append, b, List.foldl_cons, List.foldl_nil, pfxS, h1, h2, if_pos rfl]; omega
    · refine ⟨fun c hc => ?_, ?_⟩
      · rw [List.mem_singleton] at hc
        rw [hc]; unfold isPfx; rw [h1]; rfl
      · rw [List.foldl_cons, List.foldl_nil, pfxS, h1, h2, if_pos rfl]; omega
/-- An instruction's bytes: prefixes, and a last one. -/
theorem encI_parts (fn : Nat) (v : Int) (_ : fn < 16) (hv : -2147483648 ≤ v ∧ v ≤ 2147483647) : ∃ p, encI fn v = p ++ [UInt8.ofNat (16 * fn + (v % 16).toNat)] ∧ (∀ c ∈ p, isPfx c = true) ∧ p.foldl pfxS 0 + v % 16 = v ∧ p.foldl pfxS 0 % 16 = 0 := by
  unfold encI
  by_cases h : v < 0
  · rw [if_pos h]
    obtain ⟨m, hm⟩ : ∃ m : Nat, (-1 - v) / 16 = m := ⟨((-1 - v) / 16).toNat, by omega⟩
    rw [hm, Int.toNat_natCast]
    have hm2 : m < 134217728 := by omega
    have h16 : 16 ^ (7 + 1) = 4294967296 := by decide
    obtain ⟨b1, b2⟩ := byte_parts (fn := 6) (d := m % 16) (by omega) (by omega)
    refine ⟨encF 8 6 m, rfl, ?_⟩
    have key : (∀ c ∈ encF 8 6 m, isPfx c = true) ∧ (encF 8 6 m).foldl pfxS 0 = 16 * (-1 - (m : Int)) := by
      rw [encF]
      split
      · obtain ⟨a, b⟩ := encF_pfx 7 (m / 16) (by omega)
        refine ⟨fun c hc => ?_, ?_⟩
        · rcases List.mem_append.1 hc with hc | hc
          · exact a c hc
          · rw [List.mem_singleton.1 hc]; unfold isPfx; rw [b1]; rfl
        · rw [List.foldl_append, b, List.foldl_cons, List.foldl_nil, pfxS, b1, b2, if_neg (by decide)]; omega
      · refine ⟨fun c hc => ?_, ?_⟩
        · rw [List.mem_singleton] at hc
          rw [hc]; unfold isPfx; rw [b1]; rfl
        · rw [List.foldl_cons, List.foldl_nil, pfxS, b1, b2, if_neg (by decide)]; omega
    refine ⟨key.1, by rw [key.2]; omega, by rw [key.2]; omega⟩
  · rw [if_neg h]
    obtain ⟨m, rfl⟩ := Int.eq_ofNat_of_zero_le (show 0 ≤ v by omega)
    rw [Int.toNat_natCast]
    have e : (((m : Int) % 16).toNat) = m % 16 := by omega
    rw [e, encF]
    have h16 : 16 ^ (7 + 1) = 4294967296 := by decide
    split
    · obtain ⟨a, b⟩ := encF_pfx 7 (m / 16) (by omega)
      exact ⟨_, rfl, a, by rw [b]; omega, by rw [b]; omega⟩
    · exact ⟨[], rfl, (fun c hc => by cases hc), (by rw [List.foldl_nil]; omega), rfl⟩
/-- The states of the operand stay words. -/
theorem encI_small (fn : Nat) (v : Int) (hv : -2147483648 ≤ v ∧ v ≤ 2147483647) : (encI fn v).length ≤ 8 := by rw [encI_len]; exact lenV_le hv
end Go.Proofs.YtljeecocbcffcaaDoor

/- Assemble of the reference, walked. -/
namespace Go.Proofs.YtljeecocbcffcaaDoor
open Go.RowKit Go.Maps Go.WideMaps Go.Shelf
set_option linter.unusedSimpArgs false
set_option linter.unusedVariables false

theorem own_grown {w w' : World} {B e size n : Nat} {v : Value} {xs : List Value} {row : Option Nat} (h : w.ownsRow B e size v n xs) (hg : w.grownBy w' row) (hne : ∀ g, v.ownBlock = some g → some g ≠ row) : w'.ownsRow B e size v n xs := by
  refine ⟨h.1, ?_⟩
  rcases h.2 with hn | ⟨g, cap, cur, rfl, hb, hh, rest⟩
  · exact .inl hn
  · exact .inr ⟨g, cap, cur, rfl, hb, (hg.block g (Array.getElem?_eq_some_iff.1 hh).1 (hne g rfl)).trans hh, rest⟩
theorem own_own_ne {w : World} {B e size n B' e' size' n' : Nat} {v v' : Value} {xs xs' : List Value} (h : w.ownsRow B e size v n xs) (h' : w.ownsRow B' e' size' v' n' xs') (hne : e ≠ e') : ∀ g, v.ownBlock = some g → some g ≠ v'.ownBlock := by
  intro g hg
  rcases h.2 with ⟨rfl, _⟩ | ⟨g1, cap, cur, rfl, hb, hh, rest⟩
  · simp [Value.ownBlock] at hg
  · have : g1 = g := by simpa [Value.ownBlock] using hg
    subst this
    rcases h'.2 with ⟨rfl, _⟩ | ⟨g2, cap', cur', rfl, hb', hh', rest'⟩
    · simp [Value.ownBlock]
    · intro e1
      have : g1 = g2 := by simpa [Value.ownBlock] using e1
      subst this
      rw [hh] at hh'
      injection hh' with hh'
      injection hh' with _ e2
      exact hne e2
theorem adrs_take (F : List Nat) (n k : Nat) (hk : k < n) : (adrs F n).take (k + 1) = (adrs F n).take k ++ [adr F k] := by
  rw [List.take_add_one, adrs_get F (show k ≤ n by omega)]; rfl
def RetAsmR (ls : List LineL) (w : World) (e : Ending) (w' : World) : Prop :=
  Below w.heap.size w w' ∧ ((checkE ls = 0 ∧ ∃ v u, e = .returned (.tuple #[v, u, .int .i64 0]) ∧ w'.ownsRow w.heap.size 5 1 v (codeL ls).length (bcells (codeL ls)) ∧
      w'.ownsRow w.heap.size 3 1 u ls.length (ncells ((adrs (fixL (opds ls)) ls.length).take ls.length))) ∨
    (checkE ls ≠ 0 ∧ e = .returned (.tuple #[.slice none 0 0, .slice none 0 0, .int .i64 (checkE ls)])))
theorem RetLenR.zero {ls : List LineL} {w w' : World} {e : Ending} (he : checkE ls = 0) (h : RetLenR ls w e w') :
    Below w.heap.size w w' ∧ ∃ v, e = .returned (.tuple #[v, .int .i64 0]) ∧ w'.ownsRow w.heap.size 3 1 v ls.length (ncells (fixL (opds ls))) := by
  refine ⟨h.1, ?_⟩
  rcases h.2 with h | h
  · exact h.2
  · exact absurd he h.1
theorem RetLenR.not {ls : List LineL} {w w' : World} {e : Ending} (he : checkE ls ≠ 0) (h : RetLenR ls w e w') :
    Below w.heap.size w w' ∧ e = .returned (.tuple #[.slice none 0 0, .int .i64 (checkE ls)]) := by
  refine ⟨h.1, ?_⟩
  rcases h.2 with h | h
  · exact absurd h.1 he
  · exact h.2
end Go.Proofs.YtljeecocbcffcaaDoor

/- code.Get, walked at an instruction's bytes. -/
namespace Go.Proofs.YtljeecocbcffcaaDoor
open Go.RowKit Go.Maps Go.WideMaps Go.Shelf
set_option linter.unusedSimpArgs false
set_option linter.unusedVariables false

theorem i32_or_low (n d : Int) (hn : n % 16 = 0) (h0 : 0 ≤ d) (h1 : d < 16) : bits .or .i32 n d = wrap32 (n + d) := by
  obtain ⟨q, hq⟩ : ∃ q : Nat, (n % ((2 ^ 32 : Nat) : Int)).toNat = 2 ^ 4 * q := ⟨(n % ((2 ^ 32 : Nat) : Int)).toNat / 16, by
    have : (2 : Nat) ^ 32 = 4294967296 := by decide
    rw [this]; omega⟩
  have hd : (d % ((2 ^ 32 : Nat) : Int)).toNat = d.toNat := by
    have : (2 : Nat) ^ 32 = 4294967296 := by decide
    rw [this]; omega
  have key : (BitVec.ofInt 32 n ||| BitVec.ofInt 32 d).toNat = 2 ^ 4 * q + d.toNat := by
    rw [BitVec.toNat_or, BitVec.toNat_ofInt, BitVec.toNat_ofInt, hq, hd, Nat.two_pow_add_eq_or_of_lt (by omega)]
  show IntKind.i32.wrap ((BitVec.ofInt 32 n ||| BitVec.ofInt 32 d).toNat : Nat) = wrap32 (n + d)
  rw [key, IntKind.wrap_i32]
  have e32 : ((2 ^ 32 : Nat) : Int) = 4294967296 := by decide
  rw [e32] at hq
  unfold wrap32
  omega
/-- The states of the operand. -/
def stG (p : List UInt8) (k : Nat) : Int := (p.take k).foldl pfxS 0
theorem stG_zero (p : List UInt8) : stG p 0 = 0 := rfl
theorem stG_succ {p : List UInt8} {k : Nat} {c : UInt8} (h : p[k]? = some c) : stG p (k + 1) = pfxS (stG p k) c := by
  unfold stG
  rw [List.take_add_one, h]
  simp
theorem pfxS_mod (o : Int) (c : UInt8) : pfxS o c % 16 = 0 := by
  unfold pfxS
  split <;> omega
theorem stG_mod (p : List UInt8) : ∀ k, stG p k % 16 = 0
  | 0 => rfl
  | k + 1 => by
    cases h : p[k]? with
    | none =>
      have hl : p.length ≤ k := List.getElem?_eq_none_iff.1 h
      have : stG p (k + 1) = stG p k := by unfold stG; rw [List.take_of_length_le (by omega), List.take_of_length_le (by omega)]
      rw [this]; exact stG_mod p k
    | some c => rw [stG_succ h]; exact pfxS_mod _ _
theorem u8_and15 (n : Int) : bits .and .u8 n 15 = n % 16 := by
  have h15 : (BitVec.ofInt 8 15).toNat = 2 ^ 4 - 1 := by decide
  have key : (BitVec.ofInt 8 n &&& BitVec.ofInt 8 15).toNat = (n % ((2 ^ 8 : Nat) : Int)).toNat % 2 ^ 4 := by
    rw [BitVec.toNat_and, BitVec.toNat_ofInt, h15, Nat.and_two_pow_sub_one_eq_mod]
  show IntKind.u8.wrap ((BitVec.ofInt 8 n &&& BitVec.ofInt 8 15).toNat : Nat) = n % 16
  rw [key, IntKind.wrap_u8]
  omega
set_option maxRecDepth 100000 in
set_option maxHeartbeats 4000000 in
theorem cGet (fn : Nat) (v : Int) (hf : fn < 16) (hf2 : fn ≠ 2) (hf6 : fn ≠ 6) (hv : is32 v) (rest : List UInt8) (A : Option Addr) (c : Nat) (n : Nat) (hn : n ≤ 1000000) (w : World)
    (hr : Reads w w.heap.size 1 A n (bcells (encI fn v ++ rest))) :
    Calls Tryd.prog 28 #[.slice A n c] w (RetV (.tuple #[.agg #[.int .u8 fn, .int .i32 v], .int .i64 ((encI fn v).length : Nat), .int .i64 0]) w) := by
  obtain ⟨p, hp, hpf, hsum, hmod⟩ := encI_parts fn v hf hv
  have hsm := encI_small fn v hv
  have hl := hr.1
  rw [bcells_len, List.length_append] at hl
  have hpl : (encI fn v).length = p.length + 1 := by rw [hp]; simp
  obtain ⟨L, hL⟩ : ∃ L, p.length = L := ⟨_, rfl⟩
  rw [hpl, hL] at hl hsm
  rw [hpl, hL]
  obtain ⟨b, off, rfl, hb, hc⟩ := hr.addr (by omega) (by omega)
  have hcell : ∀ k d, (encI fn v ++ rest)[k]? = some d → w.cell? ⟨b, off + k, none⟩ = some (.int .u8 (d.toNat : Int)) := fun k d hd => hc k _ (bcells_get hd)
  have HP := Lib.hid (fun (k : Nat) (hk : k < L) => show ∃ d : UInt8, p[k]? = some d ∧ (d.toNat / 16 = 2 ∨ d.toNat / 16 = 6) ∧ w.cell? ⟨b, off + k, none⟩ = some (.int .u8 (d.toNat : Int)) from by
    have hkp : k < p.length := by omega
    refine ⟨p[k], List.getElem?_eq_getElem hkp, ?_, hcell k _ ?_⟩
    · have := hpf p[k] (List.getElem_mem hkp)
      unfold isPfx at this
      simpa using this
    · rw [hp, List.append_assoc, List.getElem?_append_left hkp, List.getElem?_eq_getElem hkp])
  have hlast : w.cell? ⟨b, off + L, none⟩ = some (.int .u8 ((16 * fn + (v % 16).toNat : Nat) : Int)) := by
    have := hcell L (UInt8.ofNat (16 * fn + (v % 16).toNat)) (by rw [hp, List.append_assoc, ← hL, List.getElem?_append_right (Nat.le_refl _)]; simp)
    rw [byte_nat hf (by omega)] at this
    exact this
  have hend : stG p L = v - v % 16 := by
    unfold stG
    rw [← hL, List.take_length]; omega
  have HEND := Lib.hid hend
  have HMOD := Lib.hid (stG_mod p)
  have HSUC := Lib.hid (fun (k : Nat) (d : UInt8) (h : p[k]? = some d) => stG_succ h)
  obtain ⟨S, hS⟩ : ∃ S, stG p = S := ⟨_, rfl⟩
  have hz : S 0 = 0 := by rw [← hS]; exact stG_zero p
  rw [hS] at HEND HMOD HSUC
  have HV := Lib.hid hv
  have b0 := Blk.new w 59 #[.int .u8 0, .int .i32 0]
  clear hc hcell hp hpf hsum hmod hr hpl hend hS hv
  have hw1 : IntKind.i64.wrap ((L : Int) + 1) = (L : Int) + 1 := IntWalk.i64_in _ (by omega)
  go_enter Tryd.func28, Tryd.ntmps28
  go_wp2
  go_loop [5, 11] (fun o i => ∃ k : Nat, k ≤ L ∧ i = .int .i64 k ∧ o = .int .i32 (wrap32 (S k))) (fun _ i => L + 1 - (intOf i).toNat)
  case atStart => exact ⟨0, by omega, rfl, by rw [hz]; simp [wrap32]⟩
  case round =>
    obtain ⟨k, hk, rfl, rfl⟩ := hrel
    have hk0 : (0 : Int) ≤ k := by omega
    have hkn : (k : Int) < n := by omega
    have hkm : (k : Int) < min (n : Int) 16 := by omega
    have hm16 := HMOD.out k
    have hwm : wrap32 (S k) % 16 = 0 := by unfold wrap32; omega
    have hw1 : IntKind.i64.wrap ((k : Int) + 1) = (k : Int) + 1 := IntWalk.i64_in _ (by omega)
    by_cases hlt : k < L
    · obtain ⟨d, hd, hpf, hcd⟩ := HP.out k hlt
      have hsu := HSUC.out k d hd
      have hand := u8_and15 (d.toNat : Int)
      have hor := i32_or_low (wrap32 (S k)) ((d.toNat : Int) % 16) hwm (by omega) (by omega)
      have HSU := Lib.hid hsu
      clear hsu hd
      obtain ⟨z, hz⟩ : ∃ z : Nat, d.toNat = z := ⟨_, rfl⟩
      have hz255 : z < 256 := by rw [← hz]; exact UInt8.toNat_lt_size _
      have hpx : pfxS (S k) d = if z / 16 = 2 then 16 * (S k + ((z % 16 : Nat) : Int)) else 16 * (-1 - (S k + ((z % 16 : Nat) : Int))) := by unfold pfxS; rw [hz]
      rw [hz] at hpf hand hor hcd
      have HPX := Lib.hid hpx
      clear hpx hz
      rcases hpf with h2 | h6
      · have h2' : (z : Int) / 16 = 2 := by omega
        go_wp2
        go_round
        case rel => exact ⟨k + 1, by omega, by go_num, by rw [HSU.out, HPX.out, if_pos h2]; congr 1; unfold wrap32; omega⟩
        case measure => simp [intOf]; omega
      · have h6' : (z : Int) / 16 = 6 := by omega
        have hx : bits .xor .i32 (if IntKind.i32.signed = true then -1 else IntKind.i32.max) (wrap32 (wrap32 (S k) + (z : Int) % 16)) = -1 - wrap32 (wrap32 (S k) + (z : Int) % 16) := i32_not _ (wrap32_is32 _)
        go_wp2
        go_round
        case rel => exact ⟨k + 1, by omega, by go_num, by rw [HSU.out, HPX.out, if_neg (by omega)]; congr 1; unfold wrap32; omega⟩
        case measure => simp [intOf]; omega
    · obtain rfl : k = L := by omega
      obtain ⟨z, hz⟩ : ∃ z : Nat, 16 * fn + (v % 16).toNat = z := ⟨_, rfl⟩
      have hz16 : (z : Int) / 16 = fn := by omega
      have hzm : (z : Int) % 16 = v % 16 := by omega
      rw [hz] at hlast
      have hz255 : z < 256 := by omega
      have hand := u8_and15 (z : Int)
      have hor := i32_or_low (wrap32 (S k)) ((z : Int) % 16) hwm (by omega) (by omega)
      have hv32 := HV.out
      unfold is32 at hv32
      have hfin : wrap32 (wrap32 (S k) + v % 16) = v := by rw [HEND.out]; unfold wrap32; omega
      rw [hzm] at hand hor
      rw [hfin] at hor
      have e2 : ((fn : Int) == 2) = false := by simp; omega
      have e6 : ((fn : Int) == 6) = false := by simp; omega
      clear hz hfin hv32
      go_wp2
      have b1 := Blk.new w 59 #[.int .u8 fn, .int .i32 v]
      have k1 : Below w.heap.size w (w.alloc (.cells #[.int .u8 fn, .int .i32 v] 59)) := (Below.refl _ _).alloc (Nat.le_refl _) _
      generalize w.alloc (.cells #[.int .u8 fn, .int .i32 v] 59) = W at *
      have c0 := b1.cell 0
      have c1 := b1.cell 1
      simp at c0 c1
      refine bodyPost_ret (v := .tuple #[.agg #[.int .u8 fn, .int .i32 v], .int .i64 ((k : Int) + 1), .int .i64 0]) (by simp [results, Tryd.results28, go_sem, c0, c1]) rfl ⟨rfl, k1⟩
end Go.Proofs.YtljeecocbcffcaaDoor

/- AsmJumps, walked. -/
namespace Go.Proofs.YtljeecocbcffcaaDoor
open Go.RowKit Go.Maps Go.WideMaps Go.Shelf
set_option linter.unusedSimpArgs false
set_option linter.unusedVariables false

theorem codeK_adr {ls : List LineL} (hn : ls.length ≤ 4096) (ha : ∀ x ∈ ls, is32 x.arg) : ∀ k, k ≤ ls.length → (codeK (fixL (opds ls)) ls k).length = adr (fixL (opds ls)) k
  | 0, _ => by simp [codeK_zero, adr]
  | k + 1, h => by
    have hf : Fit (opds ls) := opds_fit hn ha
    have hx : ls[k]? = some ls[k] := List.getElem?_eq_getElem (by omega)
    have h1 := needL_get (fixL (opds ls)) (opds_get hx)
    rw [(fixL_fix hf).1] at h1
    rw [codeK_succ hx, List.length_append, codeK_adr hn ha k (by omega), encI_len, adr, h1]
theorem codeL_split {ls : List LineL} {k : Nat} {x : LineL} (hx : ls[k]? = some x) : ∃ R, codeL ls = codeK (fixL (opds ls)) ls k ++ (encI x.fn (valO (fixL (opds ls)) (opdL ls k x)) ++ R) := by
  refine ⟨(ls.zipIdx.drop (k + 1)).flatMap fun p => encI p.1.fn (valO (fixL (opds ls)) (opdL ls p.2 p.1)), ?_⟩
  rw [← List.append_assoc, ← codeK_succ hx]
  unfold codeK codeL
  rw [← List.flatMap_append, List.take_append_drop]
theorem check_names {ls : List LineL} (h : checkE ls = 0) {k : Nat} {x : LineL} (hx : ls[k]? = some x) : (x.target.isEmpty = false → (atL ls x.target).isSome = true) ∧ (x.frm.isEmpty = false → (atL ls x.frm).isSome = true) := by
  unfold checkE at h
  split at h
  · split at h
    · rename_i h2
      have := List.all_eq_true.1 h2 (x, k) (by
        rw [List.mem_iff_getElem?]
        exact ⟨k, by simp [List.getElem?_zipIdx, hx]⟩)
      unfold okL at this
      simp only [Bool.and_eq_true, Bool.or_eq_true] at this
      refine ⟨fun ht => ?_, fun hf => ?_⟩
      · rcases this.1.2 with h | h
        · rw [ht] at h; cases h
        · exact h
      · rcases this.2 with h | h
        · rw [hf] at h; cases h
        · exact h
    · cases h
  · cases h
theorem atI_in {ls : List LineL} {nm : List UInt8} (h : (atL ls nm).isSome = true) : 0 ≤ atI ls nm ∧ atI ls nm < ls.length := by
  unfold atI
  cases hj : atL ls nm with
  | none => rw [hj] at h; cases h
  | some j => simp only; have := atL_lt hj; omega
set_option maxRecDepth 100000 in
set_option maxHeartbeats 4000000 in
theorem jumps_true (ls : List LineL) (hok : ∀ x ∈ ls, LOk x) (A : Option Addr) (c : Nat) (B : Nat) (w : World) (hr : Reads w w.heap.size 5 A ls.length (linesL ls)) (hL : Laid5 B w) (hm : MaxAt B w) (hB : B ≤ w.heap.size) (hgB : 1 < B) :
    Calls Tryd.prog 9 #[.slice A (ls.length : Nat) c] w (RetV (.bool true) w) := by
  have S0 := Lib.hid (S6.start hL hm hB)
  have HH := Lib.hid (fun w h1 h2 h3 => lHead B w h1 h2 h3 hgB)
  by_cases hn : 60 < ls.length
  · have hnI : 60 < (ls.length : Int) := by omega
    clear hL hm hB hr hok
    generalize ls.length = n at *
    go_enter Tryd.func9, Tryd.ntmps9
    go_wp2_with (go_at_call 24; refine (HH.out _ S0.out.l S0.out.m S0.out.b).mono ?_; rintro e w2 ⟨rfl, hb2⟩)
    go_ret
    exact ⟨rfl, (S0.out.call hb2).k⟩
  · have hnI : ¬ 60 < (ls.length : Int) := by omega
    by_cases he : checkE ls = 0
    · have HP := Lib.hid (fun w1 hr h1 h2 => (pAssemble ls hok (by omega) A c B w1 hr h1 h2).mono fun e w' h => h.zero he)
      have h4096 : ls.length ≤ 4096 := by omega
      have hfit : Fit (opds ls) := opds_fit h4096 fun x hx => (hok x hx).arg
      have h8 := fix8 hfit (LE.refl _)
      have hv32 : ∀ (k : Nat) (x : LineL), ls[k]? = some x → is32 (valO (fixL (opds ls)) (opdL ls k x)) := fun k x hx => val_is32 hfit h8 (opds_get hx)
      have HCL := Lib.hid (codeK_adr h4096 fun x hx => (hok x hx).arg)
      have HSP := Lib.hid (fun (k : Nat) (x : LineL) (hx : ls[k]? = some x) => codeL_split hx)
      have HEND := Lib.hid (codeK_end ls)
      have HV := Lib.hid hv32
      have HVC := Lib.hid (fun (k : Nat) (x : LineL) (hx : ls[k]? = some x) => valid_code (check_valid he hx))
      have HR := Lib.hid hr
      have HOK := Lib.hid hok
      have HNM := Lib.hid (fun (k : Nat) (x : LineL) (hx : ls[k]? = some x) => check_names he hx)
      have H8 := Lib.hid (adr_le h8)
      generalize fixL (opds ls) = F at *
      obtain ⟨n, hnn⟩ : ∃ n, ls.length = n := ⟨_, rfl⟩
      rw [hnn] at HP HR HCL HEND hn hnI ⊢
      have HNN := Lib.hid hnn
      generalize codeL ls = CL at *
      obtain ⟨C, hC⟩ : ∃ C, CL.length = C := ⟨_, rfl⟩
      rw [hC] at HP
      have HC := Lib.hid hC
      clear hL hm hB hr hok he h4096 hfit h8 hv32 hnn hC
      go_enter Tryd.func9, Tryd.ntmps9
      go_wp2_with (go_at_call 14; (with_reducible refine (HP.out _ HR.out S0.out.l S0.out.b).mono ?_); rintro e w1 ⟨hb1, ac, cc, ga, rfl, hc1, ha1, hga⟩
                   have S1 := Lib.hid (S0.out.call hb1)
                   have R1 := Lib.hid ((HR.out.below hb1).more hb1.size)
                   have C1 := Lib.hid hc1
                   have A1 := Lib.hid ha1
                   clear hb1 hc1 ha1)
      go_loopw [6, 7] (fun nx i wr => ∃ k : Nat, k ≤ n ∧ i = .int .i64 k ∧ nx = .int .i64 (adr F k : Nat) ∧ Hid (Below w1.heap.size w1 wr)) (fun _ i _ => n - (intOf i).toNat)
      case atStart => exact ⟨0, by omega, rfl, rfl, Lib.hid (Below.refl _ _)⟩
      case round =>
        obtain ⟨k, hk, rfl, rfl, K⟩ := hrel
        have hk0 : (0 : Int) ≤ k := by omega
        have hCb : C ≤ 480 := by
          have h1 := HCL.out n (Nat.le_refl _)
          rw [HEND.out, HC.out] at h1
          have h2 := H8.out n
          omega
        by_cases hlt : k < n
        · have hltI : (k : Int) < n := by omega
          obtain ⟨b, off, x, rfl, hb, hx, c0, c1, c2, c3, c4⟩ := lines_at (R1.out.below K.out) hlt
          obtain ⟨R, hR⟩ := HSP.out k x hx
          have hv := HV.out k x hx
          have hcb := HVC.out k x hx
          have hck := HCL.out k (by omega)
          have haK := ncell_at (A1.out.call K.out) (adrs_get F (show k ≤ n by omega))
          have h8k := H8.out k
          have hsu := codeK_succ (F := F) hx
          have hck1 := HCL.out (k + 1) (by omega)
          rw [hsu, List.length_append, hck] at hck1
          have hClen : C = adr F k + (encI x.fn (valO F (opdL ls k x))).length + R.length := by
            rw [← HC.out, hR, List.length_append, List.length_append, hck]; omega
          have hpos := encI_len x.fn (valO F (opdL ls k x))
          have hlp := lenV_pos (valO F (opdL ls k x))
          have hsm := encI_small x.fn _ hv
          rw [← hpos] at hlp
          have hdrop : CL.drop (adr F k * 1) = encI x.fn (valO F (opdL ls k x)) ++ R := by
            rw [hR, Nat.mul_one, ← hck, List.drop_left]
          have hfn : x.fn ≤ 15 ∧ x.fn ≠ 2 ∧ x.fn ≠ 6 := by
            unfold codeB at hcb
            simp at hcb
            exact ⟨hcb.1.1, hcb.1.2, hcb.2⟩
          have hCap : C ≤ cc := by
            rcases C1.out.2 with ⟨e, e2⟩ | ⟨g, cap, cur, e, _, _, h, _⟩
            · injection e with e1 e3; omega
            · injection e with e1 e3 e4; subst e4; exact h
          have HRC := Lib.hid (fun w' (hb : Below w1.heap.size w1 w') => by
            have h := (((Reads.of_own C1.out).below hb).cut (k := adr F k) (by omega) hCap).more hb.size
            rw [show (bcells CL).drop (adr F k * 1) = bcells (CL.drop (adr F k * 1)) by simp [bcells, List.map_drop], hdrop] at h
            simp only [Nat.mul_one] at h
            exact h)
          have HGE := Lib.hid (fun (A' : Option Addr) c' w' h => cGet x.fn (valO F (opdL ls k x)) (by omega) hfn.2.1 hfn.2.2 hv R A' c' (C - adr F k) (by omega) w' h)
          have HX := Lib.hid hx
          have HSU := Lib.hid hck1
          have hTi := atI_toNat (ls := ls) (nm := x.target)
          have hFi := atI_toNat (ls := ls) (nm := x.frm)
          clear hR hcb hck hsu hck1 hdrop hCap
          generalize hvv : valO F (opdL ls k x) = vv at *
          have HVV := Lib.hid hvv
          clear hvv
          generalize encI x.fn vv = en at *
          obtain ⟨a, ha⟩ : ∃ a, adr F k = a := ⟨_, rfl⟩
          rw [ha] at haK h8k HSU hClen HRC HGE ⊢
          have HA := Lib.hid ha
          clear ha
          have haC : (a : Int) < C := by omega
          have haI : (0 : Int) ≤ a := by omega
          have haL : (a : Int) ≤ C := by omega
          have haa : ((a : Int) != (a : Int)) = false := by simp
          have hlen1 : a + en.length ≤ C := by omega
          have hlen2 : 1 ≤ en.length := by omega
          have HCL2 := Lib.hid hClen
          clear hClen hpos hlp
          go_upto_region 15 with (first
            | (go_at_call 28; refine (HGE.out _ _ wr (HRC.out wr K.out)).mono ?_; rintro e w2 ⟨rfl, hb2⟩
               have K2 := Lib.hid (K.out.trans (hb2.mono K.out.size))
               have b2 := Blk.new w2 59 #[.int .u8 x.fn, .int .i32 vv]))
          have K3 := Lib.hid (K2.out.alloc K2.out.size (.cells #[.int .u8 x.fn, .int .i32 vv] 59))
          clear HRC HGE K K2 haK c0 c1 c2 c3 c4
          obtain ⟨g, hg⟩ : ∃ g, w2.heap.size = g := ⟨_, rfl⟩
          rw [hg] at b2 ⊢
          obtain ⟨W3, hW3⟩ : ∃ W, w2.alloc (.cells #[.int .u8 x.fn, .int .i32 vv] 59) = W := ⟨_, rfl⟩
          rw [hW3] at b2 K3 ⊢
          clear hW3 hg hb2
          obtain ⟨_, _, x', e, -, hx', c0, c1, c2, c3, c4⟩ := lines_at (R1.out.below K3.out) hlt
          injection e with e; injection e with e1 e2; subst e1 e2
          rw [HX.out] at hx'
          obtain rfl := Option.some.inj hx'
          clear hx'
          have d0 := b2.cell 0
          have d1 := b2.cell 1
          simp at d0 d1
          have hd1 : decide ((en.length : Int) < 1) = false := by simp; omega
          have hd2 : decide ((C : Int) - a < en.length) = false := by simp; omega
          have hd3 : ((x.fn : Int) != (x.fn : Int)) = false := by simp
          go_quiet (fail)
          clear hd1 hd2 hd3
          have K4 := Lib.hid (below_drewN K3.out nq)
          have A4 := Lib.hid (A1.out.call K4.out)
          have R4 := Lib.hid ((R1.out.below K4.out).more K4.out.size)
          have b4 := b2.drewN nq
          have c2n : (W3.drewN nq).cell? ⟨b, off + k * 5 + 2, none⟩ = some (.int .i32 x.arg) := c2
          have c3n : (W3.drewN nq).cell? ⟨b, off + k * 5 + 3, none⟩ = some (.string (strB x.target)) := c3
          have c4n : (W3.drewN nq).cell? ⟨b, off + k * 5 + 4, none⟩ = some (.string (strB x.frm)) := c4
          have d1n : (W3.drewN nq).cell? ⟨g, 1, none⟩ = some (.int .i32 vv) := d1
          clear K3 b2 c0 c1 c2 c3 c4 d0 d1
          generalize W3.drewN nq = W4 at *
          have eT := strB_empty x.target
          have eF := strB_empty x.frm
          obtain ⟨hnT, hnF⟩ := HNM.out k x HX.out
          have hvT : x.target.isEmpty = true → vv = x.arg := fun h => by rw [← HVV.out]; unfold opdL; rw [if_pos h]; rfl
          have hvF : x.target.isEmpty = false → vv = (adr F ((atL ls x.target).getD 0) : Int) - adr F (if x.frm.isEmpty then k + 1 else (atL ls x.frm).getD 0) := fun h => by rw [← HVV.out]; unfold opdL; rw [if_neg (by rw [h]; decide)]; rfl
          rw [← hTi, ← hFi] at hvF
          have hv32 := hv
          unfold is32 at hv32
          have haI2 := (HOK.out x (List.mem_of_getElem? HX.out)).arg
          unfold is32 at haI2
          have HNX : Hid (adr F (k + 1) = a + en.length) := Lib.hid HSU.out.symm
          generalize en.length = el at *
          have hvne : (vv != vv) = false := by simp
          cases zt : x.target.isEmpty with
          | true =>
            rw [zt] at eT
            have hva := hvT zt
            clear hvT hvF hnT hnF hTi hFi zt
            generalize strB x.target = ST at *
            generalize strB x.frm = SF at *
            generalize x.arg = xa at *
            subst hva
            go_wp2
            go_roundw
            case rel => exact ⟨k + 1, by omega, by go_num, by rw [HNX.out]; go_num, K4⟩
            case measure => simp [intOf]; omega
          | false =>
            rw [zt] at eT
            have hve := hvF zt
            obtain ⟨q0, q1⟩ := atI_in (hnT zt)
            rw [HNN.out] at q1
            obtain ⟨jT, hjT⟩ : ∃ j : Nat, atI ls x.target = j := ⟨(atI ls x.target).toNat, by omega⟩
            have HAT := Lib.hid (fun w1 hr => rAt ls x.target (some ⟨b, off, none⟩) n c w1 hr (by omega))
            rw [hjT] at HAT hve q0 q1
            have hjn : jT < n := by omega
            have hat := ncell_at A4.out (adrs_get F (show jT ≤ n by omega))
            have h8j := H8.out jT
            simp only [Int.toNat_natCast] at hve
            have q1' : (jT : Int) < n := by omega
            obtain ⟨vT, hvTT⟩ : ∃ v, adr F jT = v := ⟨_, rfl⟩
            rw [hvTT] at hve hat h8j
            clear hvT hvF hnT hTi zt hjT q0 q1
            cases zf : x.frm.isEmpty with
            | true =>
              rw [zf] at eF hve
              simp only [if_true] at hve
              rw [HNX.out] at hve
              have hve2 : ((vT : Int) - ((a : Int) + el)) = vv := by rw [hve]; omega
              have HVE := Lib.hid hve2
              clear hve hve2 hFi hnF zf
              generalize strB x.target = ST at *
              generalize strB x.frm = SF at *
              have hvn : (vv != (vT : Int) - ((a : Int) + el)) = false := by rw [HVE.out]; simp
              go_wp2_with (go_at_call 29; refine (HAT.out W4 R4.out).mono ?_; rintro e w5 ⟨rfl, hb5⟩
                           have K5 := Lib.hid (K4.out.trans (hb5.mono K4.out.size))
                           have hat5 := (hb5.cell (p := ⟨ga, jT, none⟩) A4.out.lt).trans hat
                           have b5 := b4.call hb5
                           have d5 := b5.cell 1
                           have hbs5 : b < W4.heap.size := Nat.lt_of_lt_of_le hb K4.out.size
                           have c45 := (hb5.cell (p := ⟨b, off + k * 5 + 4, none⟩) hbs5).trans c4n
                           have c35 := (hb5.cell (p := ⟨b, off + k * 5 + 3, none⟩) hbs5).trans c3n
                           simp at d5
                           clear hb5)
              go_roundw
              case rel => exact ⟨k + 1, by omega, by go_num, by rw [HNX.out]; go_num, K5⟩
              case measure => simp [intOf]; omega
            | false =>
              rw [zf] at eF hve
              simp only [Bool.false_eq_true, if_false] at hve
              obtain ⟨q2, q3⟩ := atI_in (hnF zf)
              rw [HNN.out] at q3
              obtain ⟨jF, hjF⟩ : ∃ j : Nat, atI ls x.frm = j := ⟨(atI ls x.frm).toNat, by omega⟩
              have HAF := Lib.hid (fun w1 hr => rAt ls x.frm (some ⟨b, off, none⟩) n c w1 hr (by omega))
              rw [hjF] at HAF hve q2 q3
              have hjnF : jF < n := by omega
              have haf := ncell_at A4.out (adrs_get F (show jF ≤ n by omega))
              have h8f := H8.out jF
              simp only [Int.toNat_natCast] at hve
              have q3' : (jF : Int) < n := by omega
              obtain ⟨vF, hvFF⟩ : ∃ v, adr F jF = v := ⟨_, rfl⟩
              rw [hvFF] at hve haf h8f
              have HVE := Lib.hid hve
              clear hve hFi hnF zf hjF q2 q3 hvTT hvFF
              generalize strB x.target = ST at *
              generalize strB x.frm = SF at *
              have hvn : (vv != (vT : Int) - (vF : Int)) = false := by rw [HVE.out]; simp
              have hbs4 : b < W4.heap.size := Nat.lt_of_lt_of_le hb K4.out.size
              go_upto_region 21 with (first
                | (go_at_call 29; refine (HAT.out W4 R4.out).mono ?_; rintro e w5 ⟨rfl, hb5⟩
                   have K5 := Lib.hid (K4.out.trans (hb5.mono K4.out.size))
                   have hat5 := (hb5.cell (p := ⟨ga, jT, none⟩) A4.out.lt).trans hat
                   have haf5 := (hb5.cell (p := ⟨ga, jF, none⟩) A4.out.lt).trans haf
                   have d5 := (hb5.cell (p := ⟨g, 1, none⟩) b4.lt).trans d1n
                   have c45 := (hb5.cell (p := ⟨b, off + k * 5 + 4, none⟩) hbs4).trans c4n
                   have c35 := (hb5.cell (p := ⟨b, off + k * 5 + 3, none⟩) hbs4).trans c3n
                   have hga5 := Nat.lt_of_lt_of_le A4.out.lt hb5.size
                   have hg5 := Nat.lt_of_lt_of_le b4.lt hb5.size
                   have hbs5 := Nat.lt_of_lt_of_le hbs4 hb5.size
                   have R5 := Lib.hid (R4.out.call hb5)
                   clear hb5))
              go_upto_region 22 with (fail)
              obtain ⟨ι, Fm, i0', h0', hFb, hcl⟩ := fam_below w5
              have e3 : ∀ i, (Fm i).cell? ⟨b, off + k * 5 + 3, none⟩ = some (.string ST) := fun i => ((hFb i).cell (p := ⟨b, off + k * 5 + 3, none⟩) hbs5).trans c35
              have e4 : ∀ i, (Fm i).cell? ⟨b, off + k * 5 + 4, none⟩ = some (.string SF) := fun i => ((hFb i).cell (p := ⟨b, off + k * 5 + 4, none⟩) hbs5).trans c45
              have eat : ∀ i, (Fm i).cell? ⟨ga, jT, none⟩ = some (.int .i64 (vT : Int)) := fun i => ((hFb i).cell (p := ⟨ga, jT, none⟩) hga5).trans hat5
              have eaf : ∀ i, (Fm i).cell? ⟨ga, jF, none⟩ = some (.int .i64 (vF : Int)) := fun i => ((hFb i).cell (p := ⟨ga, jF, none⟩) hga5).trans haf5
              have ed : ∀ i, (Fm i).cell? ⟨g, 1, none⟩ = some (.int .i32 vv) := fun i => ((hFb i).cell (p := ⟨g, 1, none⟩) hg5).trans d5
              have HTF := Lib.hid (fun i => HAT.out (Fm i) ((R5.out).call (hFb i)))
              have HFF := Lib.hid (fun i => HAF.out (Fm i) ((R5.out).call (hFb i)))
              haveI : Nonempty ι := ⟨i0'⟩
              refine wp_region_quiet_fam Fm i0' h0' (by kernel_rfl) (by kernel_rfl) ?_
              repeat (go_big_quiet_step (first
                | (go_at_call 29; (with_reducible refine (HTF.out _).mono ?_); rintro e w6 ⟨rfl, hb6⟩; exact ⟨rfl, hcl _ _ hb6⟩)
                | (go_at_call 29; (with_reducible refine (HFF.out _).mono ?_); rintro e w6 ⟨rfl, hb6⟩; exact ⟨rfl, hcl _ _ hb6⟩)))
              refine wpQuiet_nil ?_
              intro i
              have K6 := Lib.hid (K5.out.trans ((hFb i).mono K5.out.size))
              have ed6 := ed i
              clear hcl HTF HFF e3 e4 eat eaf ed hFb h0'
              generalize Fm i = W6 at *
              go_wp2
              go_roundw
              case rel => exact ⟨k + 1, by omega, by go_num, by rw [HNX.out]; go_num, K6⟩
              case measure => simp [intOf]; omega
        · have hltI : ¬ (k : Int) < n := by omega
          obtain rfl : n = k := by omega
          have hCL : adr F n = C := by rw [← HCL.out n (Nat.le_refl _), HEND.out, HC.out]
          rw [hCL]
          have hCC : ((C : Int) == (C : Int)) = true := by simp
          have S9 := Lib.hid (S1.out.call K.out)
          clear hCL
          go_wp2_with (go_at_call 24; refine (HH.out _ S9.out.l S9.out.m S9.out.b).mono ?_; rintro e w2 ⟨rfl, hb2⟩)
          go_ret
          exact ⟨rfl, (S9.out.call hb2).k⟩
    · have HP := Lib.hid (fun w1 hr h1 h2 => (pAssemble ls hok (by omega) A c B w1 hr h1 h2).mono fun e w' h => h.not he)
      have hne : (checkE ls != 0) = true := by simpa using he
      have HR := Lib.hid hr
      clear hL hm hB hr hok he
      generalize hll : linesL ls = LL at *
      generalize ls.length = n at *
      generalize checkE ls = ce at *
      clear hll
      go_enter Tryd.func9, Tryd.ntmps9
      go_wp2_with (first
        | (go_at_call 14; (with_reducible refine (HP.out _ HR.out S0.out.l S0.out.b).mono ?_); rintro e w1 ⟨hb1, rfl⟩
           have S1 := Lib.hid (S0.out.call hb1)
           clear hb1)
        | (go_at_call 24; refine (HH.out _ S1.out.l S1.out.m S1.out.b).mono ?_; rintro e w2 ⟨rfl, hb2⟩))
      go_ret
      exact ⟨rfl, (S1.out.call hb2).k⟩
end Go.Proofs.YtljeecocbcffcaaDoor
