/- Texts that belong together, joined: what each one holds is told ahead of it. -/
import Derived.Test.YtbefmlioampgcaaDoorHK3
import Derived.Test.YtbefmlioampgcaaDoorHA4
import Derived.Laws.BitsLemmas
set_option linter.unusedVariables false
set_option linter.unusedSimpArgs false
/- The rounds that find the addresses, in plain words. -/
namespace Go.Proofs.YtbefmlioampgcaaDoor

/-- A round's lengths: no less than before, and no less than needed. -/
def upL (os : List Opd) (l : List Nat) : List Nat := List.zipWith max l (needL os l)
/-- .. of which the first i are found. -/
def mixL (u l : List Nat) (i : Nat) : List Nat := u.take i ++ l.drop i
def adrs (l : List Nat) (n : Nat) : List Nat := (List.range (n + 1)).map (adr l)
theorem adrs_len (l : List Nat) (n : Nat) : (adrs l n).length = n + 1 := by simp [adrs]
theorem adrs_get (l : List Nat) {n k : Nat} (h : k ≤ n) : (adrs l n)[k]? = some (adr l k) := by
  simp [adrs, show k < n + 1 by omega]
theorem upL_len {os : List Opd} {l : List Nat} (h : l.length = os.length) : (upL os l).length = os.length := by simp [upL, needL_len, h]
theorem upL_get {os : List Opd} {l : List Nat} {i : Nat} {o : Opd} (h : l.length = os.length) (ho : os[i]? = some o) : (upL os l)[i]? = some (max (l.getD i 0) (lenV (valO l o))) := by
  have hi : i < os.length := (List.getElem?_eq_some_iff.1 ho).1
  have h1 : l[i]? = some (l.getD i 0) := by
    rw [List.getD_eq_getElem?_getD, List.getElem?_eq_getElem (by omega)]; rfl
  have h2 : (needL os l)[i]? = some (lenV (valO l o)) := by simp [needL, ho]
  rw [upL, List.getElem?_zipWith, h1, h2]
theorem mixL_len {u l : List Nat} (h : u.length = l.length) (i : Nat) : (mixL u l i).length = l.length := by
  simp [mixL]; omega
theorem mixL_zero (u l : List Nat) : mixL u l 0 = l := by simp [mixL]
theorem mixL_end {u l : List Nat} (h : u.length = l.length) : mixL u l l.length = u := by
  simp [mixL, ← h]
theorem mixL_at {u l : List Nat} (h : u.length = l.length) {i : Nat} (hi : i < l.length) : (mixL u l i)[i]? = l[i]? := by
  rw [mixL, List.getElem?_append_right (by simp; omega)]
  simp
  congr 1; omega
theorem mixL_set {u l : List Nat} (h : u.length = l.length) {i x : Nat} (hx : u[i]? = some x) : (mixL u l i).set i x = mixL u l (i + 1) := by
  have hi : i < u.length := (List.getElem?_eq_some_iff.1 hx).1
  apply List.ext_getElem?
  intro j
  rw [List.getElem?_set]
  have hl : (u.take i).length = i := by simp; omega
  have hl2 : (u.take (i + 1)).length = i + 1 := by simp; omega
  by_cases hij : i = j
  · subst hij
    rw [if_pos rfl, if_pos (by rw [mixL_len h]; omega), mixL, List.getElem?_append_left (by omega), List.getElem?_take, if_pos (by omega), hx]
  · rw [if_neg hij]
    unfold mixL
    rcases Nat.lt_or_ge j i with hj | hj
    · rw [List.getElem?_append_left (by omega), List.getElem?_append_left (by omega), List.getElem?_take, List.getElem?_take, if_pos hj, if_pos (by omega)]
    · rw [List.getElem?_append_right (by omega), List.getElem?_append_right (by omega), List.getElem?_drop, List.getElem?_drop, hl, hl2]
      congr 1; omega
theorem mixL_keep {u l : List Nat} (h : u.length = l.length) {i x : Nat} (hx : u[i]? = some x) (hl : l[i]? = some x) : mixL u l (i + 1) = mixL u l i := by
  rw [← mixL_set h hx]
  apply List.ext_getElem?
  intro j
  rw [List.getElem?_set]
  have hi : i < u.length := (List.getElem?_eq_some_iff.1 hx).1
  by_cases hij : i = j
  · subst hij
    rw [if_pos rfl, if_pos (by rw [mixL_len h]; omega), mixL_at h (by omega), hl]
  · rw [if_neg hij]
/-- No length has grown so far. -/
def stillB (u l : List Nat) (i : Nat) : Bool := decide (u.take i = l.take i)
theorem stillB_zero (u l : List Nat) : stillB u l 0 = true := by simp [stillB]
theorem stillB_keep {u l : List Nat} {i x : Nat} (hx : u[i]? = some x) (hl : l[i]? = some x) : stillB u l (i + 1) = stillB u l i := by
  unfold stillB
  rw [List.take_add_one, List.take_add_one, hx, hl]
  simp
theorem stillB_grown {u l : List Nat} {i x y : Nat} (h : u.length = l.length) (hx : u[i]? = some x) (hl : l[i]? = some y) (hne : x ≠ y) : stillB u l (i + 1) = false := by
  unfold stillB
  rw [decide_eq_false_iff_not]
  intro e
  have : (u.take (i + 1))[i]? = (l.take (i + 1))[i]? := by rw [e]
  rw [List.getElem?_take, List.getElem?_take, if_pos (by omega), if_pos (by omega), hx, hl] at this
  injection this with this
  exact hne this
theorem stillB_end {u l : List Nat} (h : u.length = l.length) : stillB u l l.length = decide (u = l) := by
  unfold stillB
  rw [List.take_of_length_le (by omega), List.take_of_length_le (Nat.le_refl _)]
theorem upL_ge {os : List Opd} {l : List Nat} (h : l.length = os.length) : LE l (upL os l) := by
  refine ⟨by rw [upL_len h, h], fun i => ?_⟩
  rcases Nat.lt_or_ge i os.length with hi | hi
  · have := upL_get h (List.getElem?_eq_getElem hi)
    rw [List.getD_eq_getElem?_getD (l := upL os l), this]
    simp only [Option.getD_some]; omega
  · rw [List.getD_eq_getElem?_getD, List.getElem?_eq_none (by omega)]; simp
theorem upL_need {os : List Opd} {l : List Nat} (h : l.length = os.length) : LE (needL os l) (upL os l) := by
  refine ⟨by rw [upL_len h, needL_len], fun i => ?_⟩
  rcases Nat.lt_or_ge i os.length with hi | hi
  · have := upL_get h (List.getElem?_eq_getElem hi)
    rw [List.getD_eq_getElem?_getD (l := upL os l), this, needL_get l (List.getElem?_eq_getElem hi)]
    simp only [Option.getD_some]; omega
  · rw [List.getD_eq_getElem?_getD, List.getElem?_eq_none (by rw [needL_len]; omega)]; simp
theorem upL_le {os : List Opd} (hf : Fit os) {l : List Nat} (h : LE l (fixL os)) : LE (upL os l) (fixL os) := by
  have hl : l.length = os.length := by rw [h.1, fixL_len hf]
  have h2 := needL_mono os h
  rw [(fixL_fix hf).1] at h2
  refine ⟨by rw [upL_len hl, fixL_len hf], fun i => ?_⟩
  rcases Nat.lt_or_ge i os.length with hi | hi
  · have := upL_get hl (List.getElem?_eq_getElem hi)
    rw [List.getD_eq_getElem?_getD (l := upL os l), this]
    simp only [Option.getD_some]
    have a := h.2 i
    have b := h2.2 i
    rw [needL_get l (List.getElem?_eq_getElem hi)] at b
    omega
  · rw [List.getD_eq_getElem?_getD, List.getElem?_eq_none (by rw [upL_len hl]; omega)]; simp
theorem upL_same {os : List Opd} (hf : Fit os) {l : List Nat} (h : LE l (fixL os)) (he : upL os l = l) : l = fixL os := by
  have hl : l.length = os.length := by rw [h.1, fixL_len hf]
  refine fixL_of h ?_
  have := upL_need hl
  rwa [he] at this
theorem upL_more {os : List Opd} (hf : Fit os) {l : List Nat} (h : LE l (fixL os)) (he : upL os l ≠ l) : adr l os.length < adr (upL os l) os.length := by
  have hl : l.length = os.length := by rw [h.1, fixL_len hf]
  have := adr_lt (upL_ge hl) (fun e => he e.symm)
  rwa [upL_len hl, hl] at this
theorem fix_adr {os : List Opd} (hf : Fit os) {l : List Nat} (h : LE l (fixL os)) (k : Nat) : adr l k ≤ 8 * k := by
  refine adr_le (fun i => Nat.le_trans (h.2 i) ((fixL_fix hf).2.2 i)) k
def zeros (n : Nat) : List Nat := List.replicate n 0
theorem zeros_get (n i : Nat) : (zeros n).getD i 0 = 0 := by
  rw [List.getD_eq_getElem?_getD, zeros, List.getElem?_replicate]; split <;> rfl
theorem adr_zeros (n : Nat) : ∀ k, adr (zeros n) k = 0
  | 0 => rfl
  | k + 1 => by rw [adr, adr_zeros n k, zeros_get]
theorem adrs_zeros (n : Nat) : adrs (zeros n) n = zeros (n + 1) := by
  apply List.ext_getElem?
  intro k
  rcases Nat.lt_or_ge k (n + 1) with h | h
  · rw [adrs_get _ (by omega), adr_zeros, zeros, List.getElem?_replicate, if_pos h]
  · rw [List.getElem?_eq_none (by rw [adrs_len]; exact h), List.getElem?_eq_none (by simp [zeros]; exact h)]
theorem zeros_le {os : List Opd} (hf : Fit os) : LE (zeros os.length) (fixL os) := ⟨by rw [fixL_len hf]; simp [zeros], fun i => by rw [zeros_get]; exact Nat.zero_le _⟩
/-- The addresses of which the first i + 1 are found anew. -/
theorem mixA_at {l u : List Nat} {n i : Nat} (hi : i < n) : (mixL (adrs u n) (adrs l n) (i + 1))[i]? = some (adr u i) := by
  rw [mixL, List.getElem?_append_left (by rw [List.length_take, adrs_len]; omega), List.getElem?_take, if_pos (by omega), adrs_get _ (by omega)]
theorem mixA_zero (l u : List Nat) (n : Nat) : mixL (adrs u n) (adrs l n) 1 = adrs l n := by
  rw [mixL_keep (by rw [adrs_len, adrs_len]) (x := 0) (by rw [adrs_get _ (by omega)]; rfl) (by rw [adrs_get _ (by omega)]; rfl), mixL_zero]
theorem mixA_set {l u : List Nat} {n i : Nat} (hi : i < n) : (mixL (adrs u n) (adrs l n) (i + 1)).set (i + 1) (adr u i + u.getD i 0) = mixL (adrs u n) (adrs l n) (i + 2) := by
  exact mixL_set (by rw [adrs_len, adrs_len]) (by rw [adrs_get _ (by omega)]; rfl)
theorem mixA_end (l u : List Nat) (n : Nat) : mixL (adrs u n) (adrs l n) (n + 1) = adrs u n := by
  have := mixL_end (u := adrs u n) (l := adrs l n) (by rw [adrs_len, adrs_len])
  rwa [adrs_len] at this
end Go.Proofs.YtbefmlioampgcaaDoor

/- operand, walked; the encoding of an instruction, walked. -/
namespace Go.Proofs.YtbefmlioampgcaaDoor
open Go.RowKit Go.Maps Go.WideMaps

def ncells (l : List Nat) : List Value := l.map fun (x : Nat) => .int .i64 (x : Int)
theorem ncells_len (l : List Nat) : (ncells l).length = l.length := by simp [ncells]
theorem ncells_get {l : List Nat} {k x : Nat} (h : l[k]? = some x) : (ncells l)[k]? = some (.int .i64 (x : Int)) := by simp [ncells, h]
def bcells (l : List UInt8) : List Value := l.map fun (x : UInt8) => .int .u8 (x.toNat : Int)
theorem bcells_len (l : List UInt8) : (bcells l).length = l.length := by simp [bcells]
theorem bcells_append (a b : List UInt8) : bcells (a ++ b) = bcells a ++ bcells b := by simp [bcells]
theorem bcells_get {l : List UInt8} {k : Nat} {x : UInt8} (h : l[k]? = some x) : (bcells l)[k]? = some (.int .u8 (x.toNat : Int)) := by simp [bcells, h]
/-- One number of a slice of numbers. -/
theorem num_at {w : World} {B n : Nat} {A : Option Addr} {l : List Nat} (h : Reads w B 1 A n (ncells l)) {k x : Nat} (hx : l[k]? = some x) :
    ∃ b off, A = some ⟨b, off, none⟩ ∧ b < B ∧ k < n ∧ w.cell? ⟨b, off + k, none⟩ = some (.int .i64 (x : Int)) := by
  have hl := h.1
  rw [ncells_len] at hl
  have hk := (List.getElem?_eq_some_iff.1 hx).1
  obtain ⟨b, off, rfl, hb, hc⟩ := h.addr (by omega) (by omega)
  exact ⟨b, off, rfl, hb, by omega, hc _ _ (ncells_get hx)⟩
theorem i32_and15 (n : Int) : bits .and .i32 n 15 = n % 16 := by
  have h15 : (BitVec.ofInt 32 15).toNat = 2 ^ 4 - 1 := by decide
  have key : (BitVec.ofInt 32 n &&& BitVec.ofInt 32 15).toNat = (n % ((2 ^ 32 : Nat) : Int)).toNat % 2 ^ 4 := by
    rw [BitVec.toNat_and, BitVec.toNat_ofInt, h15, Nat.and_two_pow_sub_one_eq_mod]
  show IntKind.i32.wrap ((BitVec.ofInt 32 n &&& BitVec.ofInt 32 15).toNat : Nat) = n % 16
  rw [key, IntKind.wrap_i32]
  omega
theorem i32_not (v : Int) (h : is32 v) : bits .xor .i32 (-1) v = -1 - v := by
  unfold is32 at h
  have h1 : (BitVec.ofInt 32 (-1) ^^^ BitVec.ofInt 32 v).toNat = 4294967295 - (v % ((2 ^ 32 : Nat) : Int)).toNat := by
    have e : BitVec.ofInt 32 (-1) = BitVec.allOnes 32 := by decide
    rw [e, BitVec.allOnes_xor, BitVec.toNat_not, BitVec.toNat_ofInt]
  show IntKind.i32.wrap ((BitVec.ofInt 32 (-1) ^^^ BitVec.ofInt 32 v).toNat : Nat) = -1 - v
  rw [h1, IntKind.wrap_i32]
  omega
theorem u8_join (fn v : Int) (h0 : 0 ≤ fn) (h1 : fn ≤ 15) (h2 : 0 ≤ v) (h3 : v ≤ 15) : bits .or .u8 (fn * 16) v = 16 * fn + v := by
  rw [bits_join .u8 8 (by decide) (fun n a b => by rw [IntKind.wrap_u8]; omega) 4 _ v (by omega) (by omega) (by omega) h2 (by omega) (by omega)]
  omega
/-- What can be encoded. -/
def codeB (fn : Nat) : Bool := decide (fn ≤ 15) && !(fn == 2) && !(fn == 6)
/-- A call that leaves a row of its own. -/
def RetRow (T size n : Nat) (xs : List Value) (w : World) (e : Ending) (w' : World) : Prop :=
  ∃ v, e = .returned v ∧ w'.ownsRow w.heap.size T size v n xs ∧ Below w.heap.size w w'
theorem byte_info : (Tryd.prog.info? 5).map (fun i => (i.zero, i.size, i.bytes)) = some (some (.int .u8 0), 1, 1) := by kernel_rfl
/-- append of one cell that the statement itself lays. -/
theorem wpList_app_own {P : Program} {ops : Array Oper} {rest : List Oper} {o : Oper} {a : Act} {Q : Exit → Act → World → Prop} {w : World} {t B e size bytes : Nat} {i : TypeInfo} {z v : Value} {n : Nat} {xs : List Value}
    (hgd : o.guard = none) (s x : Operand) (ho : o.op = .call { callee := .builtin .append, args := #[s, x], argTypes := #[t, t] })
    (ht : P.underlying t = some (.slice e)) (hi : P.info? e = some i) (hz : i.zero = some z) (hsize : i.size = size) (hby : i.bytes = bytes) (hzs : z.cells.size = size) (hsz : 0 < size)
    (hown : w.ownsRow B e size v n xs) (hB : B ≤ w.heap.size) (hs : a.eval s = v)
    (g m c : Nat) (news : Array Value) (hx : a.eval x = .slice (some ⟨g, 0, none⟩) m c) (hb : Blk w g e news) (hl : news.size = m * size) (h1 : ∀ u ∈ news.toList, u.oneCell' = true)
    (h63 : n + m ≤ 1099511627776) (hbytes : (n + m) * bytes ≤ 140737488355328)
    (h : ∀ v' w', w'.ownsRow B e size v' (n + m) (xs ++ news.toList) → w.grownBy w' v.ownBlock → Below B w w' → wpList P ops Q rest (a.put o.dst v') w') : wpList P ops Q (o :: rest) a w := by
  refine wpList_append_any w hgd s x t ho B e i z size bytes ht hi hz hsize hby hzs hsz v n xs hs hown (g + 1) (some ⟨g, 0, none⟩) m c news.toList hx ⟨by simpa using hl, fun _ => ⟨_, rfl, by simp, fun j u hu => ?_⟩⟩ h1 (by unfold maxLen; omega) hbytes hB ?_
  · have := hb.cell j
    have hadd : (⟨g, 0, none⟩ : Addr).add j = ⟨g, j, none⟩ := by unfold Addr.add; split <;> simp_all
    rw [hadd, this]; simpa using hu
  · intro v' w' hown' hg hat
    exact h v' w' hown' hg ((Below.refl _ _).grown hg hB (fun k hk => (hown.lt k hk).1))
theorem one_byte {fn v : Int} (h0 : 0 ≤ fn) (h1 : fn ≤ 15) : bits .or .u8 (fn * 16) (v % 16) = ((UInt8.ofNat (16 * fn.toNat + (v % 16).toNat)).toNat : Int) := by
  rw [u8_join _ _ h0 h1 (by omega) (by omega)]
  have : (UInt8.ofNat (16 * fn.toNat + (v % 16).toNat)).toNat = 16 * fn.toNat + (v % 16).toNat := by
    rw [UInt8.toNat_ofNat']; omega
  rw [this]; omega
theorem RetRow.mk {T size n : Nat} {xs : List Value} {w w' : World} {v : Value} {B : Nat} (h : w'.ownsRow B T size v n xs) (hB : w.heap.size ≤ B) (hb : Below w.heap.size w w') : RetRow T size n xs w (.returned v) w' := by
  refine ⟨v, rfl, ⟨h.1, ?_⟩, hb⟩
  rcases h.2 with hn | ⟨g, cap, cur, e1, hb', rest⟩
  · exact .inl hn
  · exact .inr ⟨g, cap, cur, e1, by omega, rest⟩
/-- The end of put: one byte behind what there is. -/
theorem enc_step {k fn m : Nat} (h : 16 ≤ m) : encF (k + 1) fn m = encF k 2 (m / 16) ++ [UInt8.ofNat (16 * fn + m % 16)] := by rw [encF, if_pos h]
theorem enc_last {k fn m : Nat} (h : m < 16) : encF k fn m = [UInt8.ofNat (16 * fn + m % 16)] := by
  cases k with
  | zero => rfl
  | succ k => rw [encF, if_neg (by omega)]
theorem one_byte_nat {fn m : Nat} (h1 : fn ≤ 15) : bits .or .u8 ((fn : Int) * 16) ((m : Int) % 16) = ((UInt8.ofNat (16 * fn + m % 16)).toNat : Int) := by
  have := one_byte (fn := (fn : Int)) (v := (m : Int)) (by omega) (by omega)
  rw [this]
  congr 3
theorem encF_le : ∀ (k fn m : Nat), (encF k fn m).length ≤ k + 1
  | 0, _, _ => Nat.le_refl _
  | k + 1, fn, m => by
    rw [encF]
    split
    · have := encF_le k 2 (m / 16)
      simp; omega
    · simp
end Go.Proofs.YtbefmlioampgcaaDoor

/- Len and Put of an instruction, and a line's encoding, walked. -/
namespace Go.Proofs.YtbefmlioampgcaaDoor
open Go.RowKit Go.Maps Go.WideMaps

theorem _root_.Go.World.ownsRow.weak {w : World} {base base' e size n : Nat} {v : Value} {xs : List Value} (h : w.ownsRow base e size v n xs) (hb : base' ≤ base) : w.ownsRow base' e size v n xs := by
  refine ⟨h.1, ?_⟩
  rcases h.2 with hn | ⟨g, cap, cur, e1, hb', rest⟩
  · exact .inl hn
  · exact .inr ⟨g, cap, cur, e1, by omega, rest⟩
theorem RetRow.cell {T size n : Nat} {xs : List Value} {w : World} {e : Ending} {w' : World} (h : RetRow T size n xs w e w') : ∃ A c, e = .returned (.slice A n c) ∧ w'.ownsRow w.heap.size T size (.slice A n c) n xs ∧ Below w.heap.size w w' ∧ n ≤ c := by
  obtain ⟨v, rfl, ho, hb⟩ := h
  rcases ho.2 with ⟨rfl, hz⟩ | ⟨g, cap, cur, rfl, hrest⟩
  · have hn : n = 0 := by rcases ho.2 with ⟨_, h⟩ | ⟨g, cap, cur, h, _⟩
                          · exact h
                          · cases h
    subst hn
    exact ⟨none, 0, rfl, ho, hb, Nat.le_refl _⟩
  · exact ⟨_, cap, rfl, ho, hb, hrest.2.2.1⟩
/-- What Put leaves of a valid instruction. -/
def RetP (fn : Nat) (v : Int) (w : World) (e : Ending) (w' : World) : Prop :=
  ∃ A c, e = .returned (.tuple #[.slice A (lenV v) c, .int .i64 0]) ∧ w'.ownsRow w.heap.size 5 1 (.slice A (lenV v) c) (lenV v) (bcells (encI fn v)) ∧ Below w.heap.size w w' ∧ lenV v ≤ c
end Go.Proofs.YtbefmlioampgcaaDoor
