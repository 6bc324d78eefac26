
/- Read and Text, of the program and of the reference, walked. -/
import Derived.Test.YtibflkphkjacnaaDoorP2
namespace Go.Proofs.YtibflkphkjacnaaDoor
open Go.RowKit
set_option linter.unusedVariables false
set_option linter.unusedSimpArgs false

theorem str_append (a b : List UInt8) : strB a ++ strB b = strB (a ++ b) := by
  apply ByteArray.ext
  simp [strB, ByteArray.data_append]
theorem rdig16 (t : Nat) (w : World) (ht : t < 4294967296) :
    Calls Tryd.prog 33 #[.int .i64 t, .int .i64 16, .int .i64 8] w (RetV (.string (strB (digL 16 8 t))) w) := by
  refine (rdigits t 16 8 w (.inr rfl) (by omega) ht).mono ?_
  rintro e w' ⟨N, h1, h2, h3, rfl, h5⟩
  have hN : N = 8 := by
    rcases h3 with h | h
    · exact h
    · rcases Nat.lt_or_ge 8 N with h4 | h4
      · have : (16 : Nat) ^ 8 ≤ 16 ^ (N - 1) := Nat.pow_le_pow_right (by decide) (by omega)
        have e : (16 : Nat) ^ 8 = 4294967296 := by decide
        omega
      · omega
  subst hN
  exact ⟨rfl, h5⟩
theorem rdig10 (t : Nat) (w : World) (ht : t < 4294967296) :
    Calls Tryd.prog 33 #[.int .i64 t, .int .i64 10, .int .i64 1] w (RetV (.string (strB (Lib.decDigits t))) w) := by
  refine (rdigits t 10 1 w (.inl rfl) (by omega) ht).mono ?_
  rintro e w' ⟨N, h1, h2, h3, rfl, h5⟩
  obtain ⟨M, rfl⟩ : ∃ M, N = M + 1 := ⟨N - 1, by omega⟩
  have := dec_unique (u := t) (N := M) (h3.elim (fun h => .inl (by omega)) .inr) h2
  rw [this]
  exact ⟨rfl, h5⟩

theorem rTextH (v : Int) (w : World) (hv : is32 v) : Calls Tryd.prog 24 #[.int .i32 v, .bool true] w (RetV (.string (strB (textL v true))) w) := by
  have HU := Lib.hid (fun w => rUns v w hv)
  obtain ⟨u0, u1⟩ := u32_bounds v
  have hT : textL v true = 35 :: digL 16 8 (u32 v).toNat := rfl
  obtain ⟨z, hz⟩ : ∃ z : Nat, u32 v = z := ⟨(u32 v).toNat, by omega⟩
  rw [hz] at HU hT u1
  rw [hT]
  have hD := Lib.hid (fun w => rdig16 z w (by omega))
  have e : (z : Int).toNat = z := rfl
  rw [e]
  obtain ⟨D, hDD⟩ : ∃ D, digL 16 8 z = D := ⟨_, rfl⟩
  rw [hDD] at hD ⊢
  have hDD' := hDD
  clear hz hT hDD e
  have e2 : strB (35 :: D) = strB [35] ++ strB D := (str_append [35] D).symm
  rw [e2]; clear e2
  obtain ⟨S, hS⟩ : ∃ S, strB D = S := ⟨_, rfl⟩
  rw [hS] at hD ⊢
  have hSz : S.size = 8 := by rw [← hS, ← hDD']; exact digL_length 16 8 z
  have hSz : S.size ≤ 100 := by omega
  clear hS hv u0 u1 hDD'
  go_enter Tryd.func24, Tryd.ntmps24
  go_wp2_with (first
    | (go_at_call 34; refine (HU.out _).mono ?_; rintro e w' ⟨rfl, rfl⟩)
    | (go_at_call 33; refine (hD.out _).mono ?_; rintro e w' ⟨rfl, hb⟩))
  go_ret
  exact ⟨rfl, hb⟩

theorem rTextD (v : Int) (w : World) (hv : is32 v) : Calls Tryd.prog 24 #[.int .i32 v, .bool false] w (RetV (.string (strB (textL v false))) w) := by
  have HU := Lib.hid (fun w => rsize v w hv)
  obtain ⟨u0, u1⟩ := hv
  have hD := Lib.hid (fun w => rdig10 v.natAbs w (by omega))
  have hT : textL v false = Lib.itoa v := rfl
  rw [hT]; clear hT
  by_cases h : v < 0
  · rw [itoa_neg' h]
    have e2 : strB (45 :: Lib.decDigits v.natAbs) = strB [45] ++ strB (Lib.decDigits v.natAbs) := (str_append [45] _).symm
    rw [e2]; clear e2
    obtain ⟨S, hS⟩ : ∃ S, strB (Lib.decDigits v.natAbs) = S := ⟨_, rfl⟩
    rw [hS] at hD ⊢
    have hSz : S.size = (Lib.decDigits v.natAbs).length := by rw [← hS]; rfl
    have hSz : S.size ≤ 100 := by have := dec_len v.natAbs (by omega); omega
    clear hS
    obtain ⟨z, hz⟩ : ∃ z : Nat, v.natAbs = z := ⟨_, rfl⟩
    rw [hz] at HU hD
    clear hz u0 u1
    go_enter Tryd.func24, Tryd.ntmps24
    go_wp2_with (first
      | (go_at_call 35; refine (HU.out _).mono ?_; rintro e w' ⟨rfl, rfl⟩)
      | (go_at_call 33; refine (hD.out _).mono ?_; rintro e w' ⟨rfl, hb⟩))
    go_ret
    exact ⟨rfl, hb⟩
  · rw [itoa_pos (by omega)]
    have e1 : v.toNat = v.natAbs := by omega
    rw [e1]; clear e1
    obtain ⟨S, hS⟩ : ∃ S, strB (Lib.decDigits v.natAbs) = S := ⟨_, rfl⟩
    rw [hS] at hD ⊢
    have hSz : S.size = (Lib.decDigits v.natAbs).length := by rw [← hS]; rfl
    have hSz : S.size ≤ 100 := by have := dec_len v.natAbs (by omega); omega
    clear hS
    obtain ⟨z, hz⟩ : ∃ z : Nat, v.natAbs = z := ⟨_, rfl⟩
    rw [hz] at HU hD
    clear hz u0 u1
    go_enter Tryd.func24, Tryd.ntmps24
    go_wp2_with (first
      | (go_at_call 35; refine (HU.out _).mono ?_; rintro e w' ⟨rfl, rfl⟩)
      | (go_at_call 33; refine (hD.out _).mono ?_; rintro e w' ⟨rfl, hb⟩))
    go_ret
    exact ⟨rfl, hb⟩
theorem rText (v : Int) (h : Bool) (w : World) (hv : is32 v) : Calls Tryd.prog 24 #[.int .i32 v, .bool h] w (RetV (.string (strB (textL v h))) w) := by
  cases h
  · exact rTextD v w hv
  · exact rTextH v w hv
theorem wText (B : Nat) (v : Int) (h : Bool) (w : World) (hv : is32 v) (hL : Laid B w) : Calls Tryd.prog 20 #[.int .i32 v, .bool h] w (RetV (.string (strB (textL v h))) w) := by
  cases h
  · exact wTextD B v w hv hL
  · exact wTextH v w hv

theorem str_ne {S T : ByteArray} (h : ¬ S = T) : (S.toList == T.toList) = false := by
  rw [ByteArray.toList_eq, ByteArray.toList_eq, beq_eq_false_iff_ne]
  intro h2
  exact h (ByteArray.ext (Array.toList_inj.1 h2))
theorem strB_of (S : ByteArray) : strB S.data.toList = S := rfl

/-- Read's answer. -/
noncomputable def readV (l : List UInt8) : Value := .tuple #[.int .i32 (readF l).1, .int .i64 (readF l).2]
theorem rr_eq {l : List UInt8} {v e : Int} (h : readF l = (v, e)) : Ending.returned (.tuple #[.int .i32 v, .int .i64 e]) = .returned (readV l) := by rw [readV, h]

/-- A string known by its first byte. -/
theorem str_parts {S : ByteArray} {c : UInt8} {r : List UInt8} (hS : S.data.toList = c :: r) : S.size = r.length + 1 ∧ S.data[0]? = some c ∧ (S.extract 1 S.size).data.toList = r := by
  have hl : S.size = r.length + 1 := by
    have : S.data.toList.length = S.size := by rw [Array.length_toList]; rfl
    rw [hS] at this; simp at this; omega
  refine ⟨hl, ?_, ?_⟩
  · rw [← Array.getElem?_toList, hS]; rfl
  · simp [ByteArray.data_extract, hS, hl]
theorem str_first {S : ByteArray} {c : UInt8} (h : S.data[0]? = some c) (h0 : 0 < S.size) : S[0] = c := by
  rw [ByteArray.getElem_eq_getElem_data]
  have h1 : S.data[0]? = some S.data[0] := Array.getElem?_eq_getElem h0
  rw [h1] at h
  exact Option.some.inj h
theorem str_size (S : ByteArray) : S.data.toList.length = S.size := by rw [Array.length_toList]; rfl

theorem hexa_ok (S : ByteArray) (w : World) (h : S.data.toList.all isHexB = true) (h8 : S.data.toList.length = 8) :
    Calls Tryd.prog 39 #[.string S] w (RetV (.tuple #[.int .u32 ((valL 16 S.data.toList % 4294967296 : Nat) : Int), .bool true]) w) := by
  refine (wHexa S w).mono ?_
  rintro e w' ⟨h1, hb⟩
  have h9 : ((S.size : Int) == 8) = true := by rw [← str_size, h8]; rfl
  rcases h1 with ⟨_, rfl⟩ | ⟨h2, _⟩
  · rw [h9]; exact ⟨rfl, hb⟩
  · rw [h] at h2; cases h2
def HexNo (w : World) (e : Ending) (w' : World) : Prop := (∃ V : Int, e = .returned (.tuple #[.int .u32 V, .bool false])) ∧ Below w.heap.size w w'
theorem hexa_no (S : ByteArray) (w : World) (h : S.data.toList.all isHexB = false ∨ S.data.toList.length ≠ 8) :
    Calls Tryd.prog 39 #[.string S] w (HexNo w) := by
  refine (wHexa S w).mono ?_
  rintro e w' ⟨h1, hb⟩
  refine ⟨?_, hb⟩
  rcases h1 with ⟨h2, rfl⟩ | ⟨h2, rfl⟩
  · have h9 : ((S.size : Int) == 8) = false := by
      rw [← str_size]
      rcases h with h | h
      · rw [h2] at h; cases h
      · have : ¬ ((S.data.toList.length : Int) = 8) := by omega
        simpa using this
    rw [h9]; exact ⟨_, rfl⟩
  · exact ⟨_, rfl⟩

theorem wRead_hex (S : ByteArray) (r : List UInt8) (w : World) (hS : S.data.toList = 35 :: r) : Calls Tryd.prog 29 #[.string S] w (RetV (readV S.data.toList) w) := by
  obtain ⟨hl, hc, he⟩ := str_parts hS
  have h0 : 0 < S.size := by omega
  have h00 : 0 < (S.size : Int) := by omega
  have hc0 : S[0] = 35 := str_first hc h0
  rw [hS]
  by_cases h : r.all isHexB = true ∧ r.length = 8
  · have hr := Lib.hid (readF_hex h.1 h.2)
    have hH := Lib.hid (fun w => hexa_ok (S.extract 1 S.size) w (he ▸ h.1) (he ▸ h.2))
    rw [he] at hH
    obtain ⟨V, hV⟩ : ∃ V : Nat, valL 16 r % 4294967296 = V := ⟨_, rfl⟩
    have hVl : V < 4294967296 := by omega
    rw [hV] at hr hH
    clear hV h hl hc he hS
    go_enter Tryd.func29, Tryd.ntmps29
    go_wp2_with (first
      | (go_at_call 39; refine (hH.out _).mono ?_; rintro e w' ⟨rfl, hb⟩))
    go_ret2
    exact ⟨rr_eq hr.out, hb⟩
  · have hn : r.all isHexB = false ∨ r.length ≠ 8 := by
      by_cases h2 : r.all isHexB = true
      · exact .inr fun h3 => h ⟨h2, h3⟩
      · exact .inl (by simpa using h2)
    have hr := Lib.hid (readF_hexno hn)
    have hH := Lib.hid (fun w => hexa_no (S.extract 1 S.size) w (he ▸ hn))
    clear hn h hl hc he hS
    go_enter Tryd.func29, Tryd.ntmps29
    go_wp2_with (first
      | (go_at_call 39; refine (hH.out _).mono ?_; rintro e w' ⟨⟨V, rfl⟩, hb⟩))
    go_ret2
    exact ⟨rr_eq hr.out, hb⟩

/-- ParseInt, as Read meets it. -/
theorem parse_ok (S : ByteArray) (v : Int) (w : World) (hs : S.size ≤ 281474976710656) (h : Lib.parseIntB 32 S.data.toList = .ok v) :
    Calls Tryd.prog 40 #[.string S, .int .i64 10, .int .i64 32] w (RetV (.tuple #[.int .i64 v, .nilIface]) w) := by
  refine (Any.strconv_ParseInt_10_at32_ok Tryd.laysC174 S (by omega) v h w).mono ?_
  rintro e w' ⟨rfl, rfl | ⟨t, rfl⟩⟩
  · exact ⟨rfl, Below.refl _ _⟩
  · exact ⟨rfl, Lib.bytesWorld_below _ _ _⟩
def ParseNo (w : World) (e : Ending) (w' : World) : Prop := (∃ (V : Int) (N : Nat), e = .returned (.tuple #[.int .i64 V, .iface 100 (.pointer (some ⟨N, 0, none⟩))])) ∧ Below w.heap.size w w'
theorem parse_no (B : Nat) (S : ByteArray) (w : World) (hs : S.size ≤ 281474976710656) (hL : Laid B w) (h : ∀ v, Lib.parseIntB 32 S.data.toList ≠ .ok v) :
    Calls Tryd.prog 40 #[.string S, .int .i64 10, .int .i64 32] w (ParseNo w) := by
  obtain ⟨tp, p, tq, q, hL⟩ := hL
  obtain ⟨h1, h2, -⟩ := hL w (Below.refl _ _)
  rcases hp : Lib.parseIntB 32 S.data.toList with v | _ | _
  · exact absurd hp (h v)
  · first
    | (refine (Any.strconv_ParseInt_10_at32_syntax_var Tryd.laysC174 S hs hp tp p w h1).mono ?_
       rintro e w' ⟨N, rfl, -, -, hb⟩
       exact ⟨⟨_, N, rfl⟩, hb⟩)
    | (refine (Any.strconv_ParseInt_10_at32_range_var Tryd.laysC174 S hs hp tq q w h2).mono ?_
       rintro e w' ⟨N, rfl, -, -, hb⟩
       exact ⟨⟨_, N, rfl⟩, hb⟩)
  · first
    | (refine (Any.strconv_ParseInt_10_at32_range_var Tryd.laysC174 S hs hp tq q w h2).mono ?_
       rintro e w' ⟨N, rfl, -, -, hb⟩
       exact ⟨⟨_, N, rfl⟩, hb⟩)
    | (refine (Any.strconv_ParseInt_10_at32_syntax_var Tryd.laysC174 S hs hp tp p w h1).mono ?_
       rintro e w' ⟨N, rfl, -, -, hb⟩
       exact ⟨⟨_, N, rfl⟩, hb⟩)

/-- Not a hexadecimal text. -/
def NotHex (S : ByteArray) : Prop := ∀ c r, S.data.toList = c :: r → c ≠ 35
theorem wRead_dec (B : Nat) (S : ByteArray) (w : World) (hS : NotHex S) (hs : S.size ≤ 281474976710656) (hL : Laid B w) (hB : B ≤ w.heap.size) :
    Calls Tryd.prog 29 #[.string S] w (RetV (readV S.data.toList) w) := by
  have hHL := Lib.hid hL
  have hfirst : S.size = 0 ∨ (0 < S.size ∧ ∃ c : UInt8, c ≠ 35 ∧ S.data[0]? = some c) := by
    cases hl : S.data.toList with
    | nil => left; rw [← str_size, hl]; rfl
    | cons c r => right; exact ⟨by rw [← str_size, hl]; simp, c, hS c r hl, (str_parts hl).2.1⟩
  have HN := Lib.hid hS
  clear hS hL
  by_cases hp : ∃ v, Lib.parseIntB 32 S.data.toList = .ok v
  · obtain ⟨v, hp⟩ := hp
    have hb := Lib.parseIntB_bounds hp
    have hv : is32 v := by unfold is32; simp at hb; omega
    have hP := Lib.hid (fun w => parse_ok S v w hs hp)
    have hI := Lib.hid (fun w h => itoa_any B v w hv h)
    obtain ⟨v0, v1⟩ := hv
    rcases hfirst with h0 | ⟨h0, c, hc, hd⟩
    · have : S.data.toList = [] := List.eq_nil_of_length_eq_zero (by rw [str_size, h0])
      rw [this] at hp; cases hp
    have h00 : 0 < (S.size : Int) := by omega
    have hc0 : S[0] = c := str_first hd h0
    have hc1 : ((c.toNat : Int) == 35) = false := by
      have : (35 : Int) = (((35 : UInt8).toNat : Nat) : Int) := rfl
      rw [this, eq_toNat]; simpa using hc
    have hw : wrap32 v = v := by unfold wrap32; omega
    by_cases he : Lib.itoa v = S.data.toList
    · have hr : Hid (readF S.data.toList = (v, 0)) := Lib.hid (by rw [← he]; exact readF_dec ⟨v0, v1⟩)
      have hSI : ({ data := (Lib.itoa v).toArray } : ByteArray) = S := by rw [he]
      rw [hSI] at hI
      clear he hSI hp hb hd
      go_enter Tryd.func29, Tryd.ntmps29
      go_wp2_with (first
        | (go_at_call 40; refine (hP.out _).mono ?_; rintro e w1 ⟨rfl, hb1⟩; have hL1 := Lib.hid (hHL.out.call hb1 hB))
        | (go_at_call 31; refine (hI.out _ hL1.out).mono ?_; rintro e w2 ⟨rfl, hb2⟩))
      go_ret2
      exact ⟨rr_eq hr.out, hb1.trans (hb2.mono hb1.size)⟩
    · have hr : Hid (readF S.data.toList = (0, 5)) := Lib.hid (readF_decno HN.out fun v' _ h' h'' => by
        rw [hp] at h'
        injection h' with h'
        subst h'
        exact he h'')
      obtain ⟨T, hT⟩ : ∃ T : ByteArray, ({ data := (Lib.itoa v).toArray } : ByteArray) = T := ⟨_, rfl⟩
      have hTS : ¬ T = S := fun h => he (by rw [← h, ← hT])
      have hTS2 : (T.toList == S.toList) = false := str_ne hTS
      rw [hT] at hI
      clear he hp hb hd hT
      go_enter Tryd.func29, Tryd.ntmps29
      go_wp2_with (first
        | (go_at_call 40; refine (hP.out _).mono ?_; rintro e w1 ⟨rfl, hb1⟩; have hL1 := Lib.hid (hHL.out.call hb1 hB))
        | (go_at_call 31; refine (hI.out _ hL1.out).mono ?_; rintro e w2 ⟨rfl, hb2⟩))
      go_ret2
      exact ⟨rr_eq hr.out, hb1.trans (hb2.mono hb1.size)⟩
  · have hp' : ∀ v, Lib.parseIntB 32 S.data.toList ≠ .ok v := fun v h => hp ⟨v, h⟩
    have hr : Hid (readF S.data.toList = (0, 5)) := Lib.hid (readF_decno HN.out fun v' _ h' => absurd h' (hp' v'))
    have hP := Lib.hid (fun w h => parse_no B S w hs h hp')
    clear hp hp'
    rcases hfirst with h0 | ⟨h0, c, hc, hd⟩
    · have h00 : ¬ 0 < (S.size : Int) := by omega
      have h01 : ¬ 0 < S.size := by omega
      have H0 := Lib.hid h0
      clear h0
      go_enter Tryd.func29, Tryd.ntmps29
      go_wp2_with (first
        | (go_at_call 40; refine (hP.out _ hHL.out).mono ?_; rintro e w1 ⟨⟨V, N, rfl⟩, hb1⟩))
      go_ret2
      exact ⟨rr_eq hr.out, hb1⟩
    · have h00 : 0 < (S.size : Int) := by omega
      have hc0 : S[0] = c := str_first hd h0
      have hc1 : ((c.toNat : Int) == 35) = false := by
        have : (35 : Int) = (((35 : UInt8).toNat : Nat) : Int) := rfl
        rw [this, eq_toNat]; simpa using hc
      clear hd
      go_enter Tryd.func29, Tryd.ntmps29
      go_wp2_with (first
        | (go_at_call 40; refine (hP.out _ hHL.out).mono ?_; rintro e w1 ⟨⟨V, N, rfl⟩, hb1⟩))
      go_ret2
      exact ⟨rr_eq hr.out, hb1⟩
theorem wRead (B : Nat) (S : ByteArray) (w : World) (hs : S.size ≤ 281474976710656) (hL : Laid B w) (hB : B ≤ w.heap.size) :
    Calls Tryd.prog 29 #[.string S] w (RetV (readV S.data.toList) w) := by
  by_cases h : NotHex S
  · exact wRead_dec B S w h hs hL hB
  · unfold NotHex at h
    simp only [Classical.not_forall] at h
    obtain ⟨c, r, h1, h2⟩ := h
    obtain rfl : c = 35 := by simpa using h2
    exact wRead_hex S r w h1

theorem valR_bound (b : Nat) (hb : b ≤ 16) (l : List UInt8) (h : l.length ≤ 11) : valR b l < 17592186044416 := by
  have h1 := valR_lt b hb l
  have h2 : (16 : Nat) ^ l.length ≤ 16 ^ 11 := Nat.pow_le_pow_right (by decide) h
  have e : (16 : Nat) ^ 11 = 17592186044416 := by decide
  omega
theorem rval16 (S : ByteArray) (w : World) (h : S.size ≤ 11) : Calls Tryd.prog 41 #[.string S, .int .i64 16] w (RetV (.int .i64 (valR 16 S.data.toList : Nat)) w) := rvalue S 16 w (.inr rfl) h
theorem rval10 (S : ByteArray) (w : World) (h : S.size ≤ 11) : Calls Tryd.prog 41 #[.string S, .int .i64 10] w (RetV (.int .i64 (valR 10 S.data.toList : Nat)) w) := rvalue S 10 w (.inl rfl) h
set_option maxHeartbeats 1000000 in
theorem rRead_any (S : ByteArray) (c : UInt8) (r : List UInt8) (w : World) (hS : S.data.toList = c :: r) (h11 : S.size ≤ 11) : Calls Tryd.prog 30 #[.string S] w (RetV (readV (c :: r)) w) := by
  obtain ⟨hl, hc, he⟩ := str_parts hS
  have h0 : 0 < S.size := by omega
  have h01 : ¬ (S.size : Int) < 1 := by omega
  have h02 : ¬ 11 < (S.size : Int) := by omega
  have hc0 : S[0] = c := str_first hc h0
  have hE : (S.extract 1 S.size).size ≤ 11 := by simp; omega
  have hrl : r.length ≤ 11 := by omega
  obtain ⟨t, ht⟩ : ∃ t, tryV (c :: r) = t := ⟨_, rfl⟩
  have hT := Lib.hid (fun w g => rText (wrap32 t) g w (wrap32_is _))
  obtain ⟨T, hTT⟩ : ∃ T, strB (textL (wrap32 t) (c == 35)) = T := ⟨_, rfl⟩
  have hT' := Lib.hid (fun w => hT.out w (c == 35))
  rw [hTT] at hT'
  clear hT
  have hW := Lib.hid (fun w h1 h2 => rWrap t w h1 h2)
  have hcS : T = S → readF (c :: r) = (wrap32 t, 0) := fun h => by
    rw [← ht]; refine readF_try_yes ?_
    rw [ht, ← hS, ← h, ← hTT]; rfl
  have hcN : ¬ T = S → readF (c :: r) = (0, 5) := fun h => by
    refine readF_try_no fun h2 => h ?_
    rw [← hTT, ← ht, h2, ← hS]; rfl
  have HS := Lib.hid hcS
  have HN := Lib.hid hcN
  clear hTT hcS hcN
  by_cases hc35 : c = 35
  · subst hc35
    have hV := Lib.hid (fun w => rval16 (S.extract 1 S.size) w hE)
    rw [he] at hV
    have ht2 : tryV (35 :: r) = valR 16 r := rfl
    rw [ht2] at ht
    have hb := valR_bound 16 (by decide) r hrl
    obtain ⟨z, hz⟩ : ∃ z, valR 16 r = z := ⟨_, rfl⟩
    rw [hz] at hV ht hb
    subst ht
    clear hz ht2 hS he hc hl
    have e35 : ((35 : UInt8) == 35) = true := rfl
    rw [e35] at hT'
    clear e35
    by_cases hTS : T = S
    · have hr := Lib.hid (HS.out hTS)
      subst hTS
      go_enter Tryd.func30, Tryd.ntmps30
      go_wp2_with (first
        | (go_at_call 41; refine (hV.out _).mono ?_; rintro e w1 ⟨rfl, hb1⟩)
        | (go_at_call 42; refine (hW.out _ (by omega) (by omega)).mono ?_; rintro e w1' ⟨rfl, rfl⟩)
        | (go_at_call 24; refine (hT'.out _).mono ?_; rintro e w2 ⟨rfl, hb2⟩))
      go_ret2
      exact ⟨rr_eq hr.out, hb1.trans (hb2.mono hb1.size)⟩
    · have hTS2 := str_ne hTS
      have hr := Lib.hid (HN.out hTS)
      go_enter Tryd.func30, Tryd.ntmps30
      go_wp2_with (first
        | (go_at_call 41; refine (hV.out _).mono ?_; rintro e w1 ⟨rfl, hb1⟩)
        | (go_at_call 42; refine (hW.out _ (by omega) (by omega)).mono ?_; rintro e w1' ⟨rfl, rfl⟩)
        | (go_at_call 24; refine (hT'.out _).mono ?_; rintro e w2 ⟨rfl, hb2⟩))
      go_ret2
      exact ⟨rr_eq hr.out, hb1.trans (hb2.mono hb1.size)⟩
  · have e35 : (c == 35) = false := by simpa using hc35
    rw [e35] at hT'
    have hc1 : ((c.toNat : Int) == 35) = false := by
      have : (35 : Int) = (((35 : UInt8).toNat : Nat) : Int) := rfl
      rw [this, eq_toNat]; simpa using hc35
    by_cases hc45 : c = 45
    · subst hc45
      have hV := Lib.hid (fun w => rval10 (S.extract 1 S.size) w hE)
      rw [he] at hV
      have ht2 : tryV (45 :: r) = -(valR 10 r : Int) := rfl
      rw [ht2] at ht
      have hb := valR_bound 10 (by decide) r hrl
      obtain ⟨z, hz⟩ : ∃ z, valR 10 r = z := ⟨_, rfl⟩
      rw [hz] at hV ht hb
      subst ht
      clear hz ht2 hS he hc e35 hc35 hc1 hl
      by_cases hTS : T = S
      · have hr := Lib.hid (HS.out hTS)
        subst hTS
        go_enter Tryd.func30, Tryd.ntmps30
        go_wp2_with (first
          | (go_at_call 41; refine (hV.out _).mono ?_; rintro e w1 ⟨rfl, hb1⟩)
          | (go_at_call 42; refine (hW.out _ (by omega) (by omega)).mono ?_; rintro e w1' ⟨rfl, rfl⟩)
          | (go_at_call 24; refine (hT'.out _).mono ?_; rintro e w2 ⟨rfl, hb2⟩))
        go_ret2
        exact ⟨rr_eq hr.out, hb1.trans (hb2.mono hb1.size)⟩
      · have hTS2 := str_ne hTS
        have hr := Lib.hid (HN.out hTS)
        go_enter Tryd.func30, Tryd.ntmps30
        go_wp2_with (first
          | (go_at_call 41; refine (hV.out _).mono ?_; rintro e w1 ⟨rfl, hb1⟩)
          | (go_at_call 42; refine (hW.out _ (by omega) (by omega)).mono ?_; rintro e w1' ⟨rfl, rfl⟩)
          | (go_at_call 24; refine (hT'.out _).mono ?_; rintro e w2 ⟨rfl, hb2⟩))
        go_ret2
        exact ⟨rr_eq hr.out, hb1.trans (hb2.mono hb1.size)⟩
    · have hc2 : ((c.toNat : Int) == 45) = false := by
        have : (45 : Int) = (((45 : UInt8).toNat : Nat) : Int) := rfl
        rw [this, eq_toNat]; simpa using hc45
      have hV := Lib.hid (fun w => rval10 S w h11)
      rw [hS] at hV
      have ht2 : tryV (c :: r) = valR 10 (c :: r) := by rw [tryV, if_neg hc35, if_neg hc45]
      rw [ht2] at ht
      have hb := valR_bound 10 (by decide) (c :: r) (by simp; omega)
      obtain ⟨z, hz⟩ : ∃ z, valR 10 (c :: r) = z := ⟨_, rfl⟩
      rw [hz] at hV ht hb
      subst ht
      clear hz ht2 hS he hc e35 hl
      by_cases hTS : T = S
      · have hr := Lib.hid (HS.out hTS)
        subst hTS
        go_enter Tryd.func30, Tryd.ntmps30
        go_wp2_with (first
          | (go_at_call 41; refine (hV.out _).mono ?_; rintro e w1 ⟨rfl, hb1⟩)
          | (go_at_call 42; refine (hW.out _ (by omega) (by omega)).mono ?_; rintro e w1' ⟨rfl, rfl⟩)
          | (go_at_call 24; refine (hT'.out _).mono ?_; rintro e w2 ⟨rfl, hb2⟩))
        go_ret2
        exact ⟨rr_eq hr.out, hb1.trans (hb2.mono hb1.size)⟩
      · have hTS2 := str_ne hTS
        have hr := Lib.hid (HN.out hTS)
        go_enter Tryd.func30, Tryd.ntmps30
        go_wp2_with (first
          | (go_at_call 41; refine (hV.out _).mono ?_; rintro e w1 ⟨rfl, hb1⟩)
          | (go_at_call 42; refine (hW.out _ (by omega) (by omega)).mono ?_; rintro e w1' ⟨rfl, rfl⟩)
          | (go_at_call 24; refine (hT'.out _).mono ?_; rintro e w2 ⟨rfl, hb2⟩))
        go_ret2
        exact ⟨rr_eq hr.out, hb1.trans (hb2.mono hb1.size)⟩
theorem rRead (S : ByteArray) (w : World) : Calls Tryd.prog 30 #[.string S] w (RetV (readV S.data.toList) w) := by
  by_cases h : S.size < 1 ∨ 11 < S.size
  · have hr := Lib.hid (readF_len (l := S.data.toList) (by rw [str_size]; exact h))
    by_cases h1 : (S.size : Int) < 1
    · go_enter Tryd.func30, Tryd.ntmps30
      go_wp2
      go_ret2
      exact ⟨rr_eq hr.out, Below.refl _ _⟩
    · have h2 : 11 < (S.size : Int) := by omega
      have h3 : decide ((S.size : Int) < 1) = false := by simpa using h1
      clear h
      go_enter Tryd.func30, Tryd.ntmps30
      go_wp2
      go_ret2
      exact ⟨rr_eq hr.out, Below.refl _ _⟩
  · cases hl : S.data.toList with
    | nil => rw [← str_size, hl] at h; simp at h
    | cons c r => exact rRead_any S c r w hl (by omega)
end Go.Proofs.YtibflkphkjacnaaDoor
