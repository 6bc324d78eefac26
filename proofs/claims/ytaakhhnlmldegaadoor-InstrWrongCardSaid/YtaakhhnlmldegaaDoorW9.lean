
/- Read and Text, of the program and of the reference, walked. -/
import Derived.Test.YtaakhhnlmldegaaDoorP2
namespace Go.Proofs.YtaakhhnlmldegaaDoor
open Go.RowKit
set_option linter.unusedVariables false
set_option linter.unusedSimpArgs false

theorem str_append (a b : List UInt8) : strB a ++ strB b = strB (a ++ b) := by
  apply ByteArray.ext
  simp [strB, ByteArray.data_append]
theorem wText (B : Nat) (v : Int) (h : Bool) (w : World) (hv : is32 v) (hL : Laid B w) : Calls Tryd.prog 13 #[.int .i32 v, .bool h] w (RetV (.string (strB (textL v h))) w) := by
  cases h
  · exact wTextD B v w hv hL
  · exact wTextH v w hv

theorem str_ne {S T : ByteArray} (h : ¬ S = T) : (S.toList == T.toList) = false := by
  rw [ByteArray.toList_eq, ByteArray.toList_eq, beq_eq_false_iff_ne]
  intro h2
  exact h (ByteArray.ext (Array.toList_inj.1 h2))
theorem strB_of (S : ByteArray) : strB S.data.toList = S := rfl

/-- Read's answer. -/
noncomputable def readV (l : List UInt8) : Value := .tuple #[.int .i32 (readF l).1, .int .i64 (readF l).2]
theorem rr_eq {l : List UInt8} {v e : Int} (h : readF l = (v, e)) : Ending.returned (.tuple #[.int .i32 v, .int .i64 e]) = .returned (readV l) := by rw [readV, h]

/-- A string known by its first byte. -/
theorem str_parts {S : ByteArray} {c : UInt8} {r : List UInt8} (hS : S.data.toList = c :: r) : S.size = r.length + 1 ∧ S.data[0]? = some c ∧ (S.extract 1 S.size).data.toList = r := by
  have hl : S.size = r.length + 1 := by
    have : S.data.toList.length = S.size := by rw [Array.length_toList]; rfl
    rw [hS] at this; simp at this; omega
  refine ⟨hl, ?_, ?_⟩
  · rw [← Array.getElem?_toList, hS]; rfl
  · simp [ByteArray.data_extract, hS, hl]
theorem str_first {S : ByteArray} {c : UInt8} (h : S.data[0]? = some c) (h0 : 0 < S.size) : S[0] = c := by
  rw [ByteArray.getElem_eq_getElem_data]
  have h1 : S.data[0]? = some S.data[0] := Array.getElem?_eq_getElem h0
  rw [h1] at h
  exact Option.some.inj h
theorem str_size (S : ByteArray) : S.data.toList.length = S.size := by rw [Array.length_toList]; rfl

theorem hexa_ok (S : ByteArray) (w : World) (h : S.data.toList.all isHexB = true) (h8 : S.data.toList.length = 8) :
    Calls Tryd.prog 50 #[.string S] w (RetV (.tuple #[.int .u32 ((valL 16 S.data.toList % 4294967296 : Nat) : Int), .bool true]) w) := by
  refine (wHexa S w).mono ?_
  rintro e w' ⟨h1, hb⟩
  have h9 : ((S.size : Int) == 8) = true := by rw [← str_size, h8]; rfl
  rcases h1 with ⟨_, rfl⟩ | ⟨h2, _⟩
  · rw [h9]; exact ⟨rfl, hb⟩
  · rw [h] at h2; cases h2
def HexNo (w : World) (e : Ending) (w' : World) : Prop := (∃ V : Int, e = .returned (.tuple #[.int .u32 V, .bool false])) ∧ Below w.heap.size w w'
theorem hexa_no (S : ByteArray) (w : World) (h : S.data.toList.all isHexB = false ∨ S.data.toList.length ≠ 8) :
    Calls Tryd.prog 50 #[.string S] w (HexNo w) := by
  refine (wHexa S w).mono ?_
  rintro e w' ⟨h1, hb⟩
  refine ⟨?_, hb⟩
  rcases h1 with ⟨h2, rfl⟩ | ⟨h2, rfl⟩
  · have h9 : ((S.size : Int) == 8) = false := by
      rw [← str_size]
      rcases h with h | h
      · rw [h2] at h; cases h
      · have : ¬ ((S.data.toList.length : Int) = 8) := by omega
        simpa using this
    rw [h9]; exact ⟨_, rfl⟩
  · exact ⟨_, rfl⟩

theorem wRead_hex (S : ByteArray) (r : List UInt8) (w : World) (hS : S.data.toList = 35 :: r) : Calls Tryd.prog 34 #[.string S] w (RetV (readV S.data.toList) w) := by
  obtain ⟨hl, hc, he⟩ := str_parts hS
  have h0 : 0 < S.size := by omega
  have h00 : 0 < (S.size : Int) := by omega
  have hc0 : S[0] = 35 := str_first hc h0
  rw [hS]
  by_cases h : r.all isHexB = true ∧ r.length = 8
  · have hr := Lib.hid (readF_hex h.1 h.2)
    have hH := Lib.hid (fun w => hexa_ok (S.extract 1 S.size) w (he ▸ h.1) (he ▸ h.2))
    rw [he] at hH
    obtain ⟨V, hV⟩ : ∃ V : Nat, valL 16 r % 4294967296 = V := ⟨_, rfl⟩
    have hVl : V < 4294967296 := by omega
    rw [hV] at hr hH
    clear hV h hl hc he hS
    go_enter Tryd.func34, Tryd.ntmps34
    go_wp2_with (first
      | (go_at_call 50; refine (hH.out _).mono ?_; rintro e w' ⟨rfl, hb⟩))
    go_ret2
    exact ⟨rr_eq hr.out, hb⟩
  · have hn : r.all isHexB = false ∨ r.length ≠ 8 := by
      by_cases h2 : r.all isHexB = true
      · exact .inr fun h3 => h ⟨h2, h3⟩
      · exact .inl (by simpa using h2)
    have hr := Lib.hid (readF_hexno hn)
    have hH := Lib.hid (fun w => hexa_no (S.extract 1 S.size) w (he ▸ hn))
    clear hn h hl hc he hS
    go_enter Tryd.func34, Tryd.ntmps34
    go_wp2_with (first
      | (go_at_call 50; refine (hH.out _).mono ?_; rintro e w' ⟨⟨V, rfl⟩, hb⟩))
    go_ret2
    exact ⟨rr_eq hr.out, hb⟩

/-- ParseInt, as Read meets it. -/
theorem parse_ok (S : ByteArray) (v : Int) (w : World) (hs : S.size ≤ 281474976710656) (h : Lib.parseIntB 32 S.data.toList = .ok v) :
    Calls Tryd.prog 51 #[.string S, .int .i64 10, .int .i64 32] w (RetV (.tuple #[.int .i64 v, .nilIface]) w) := by
  refine (Any.strconv_ParseInt_10_at32_ok Tryd.laysC174 S (by omega) v h w).mono ?_
  rintro e w' ⟨rfl, rfl | ⟨t, rfl⟩⟩
  · exact ⟨rfl, Below.refl _ _⟩
  · exact ⟨rfl, Lib.bytesWorld_below _ _ _⟩
def ParseNo (w : World) (e : Ending) (w' : World) : Prop := (∃ (V : Int) (N : Nat), e = .returned (.tuple #[.int .i64 V, .iface 126 (.pointer (some ⟨N, 0, none⟩))])) ∧ Below w.heap.size w w'
theorem parse_no (B : Nat) (S : ByteArray) (w : World) (hs : S.size ≤ 281474976710656) (hL : Laid B w) (h : ∀ v, Lib.parseIntB 32 S.data.toList ≠ .ok v) :
    Calls Tryd.prog 51 #[.string S, .int .i64 10, .int .i64 32] w (ParseNo w) := by
  obtain ⟨tp, p, tq, q, hL⟩ := hL
  obtain ⟨h1, h2, -⟩ := hL w (Below.refl _ _)
  rcases hp : Lib.parseIntB 32 S.data.toList with v | _ | _
  · exact absurd hp (h v)
  · first
    | (refine (Any.strconv_ParseInt_10_at32_syntax_var Tryd.laysC174 S hs hp tp p w h1).mono ?_
       rintro e w' ⟨N, rfl, -, -, hb⟩
       exact ⟨⟨_, N, rfl⟩, hb⟩)
    | (refine (Any.strconv_ParseInt_10_at32_range_var Tryd.laysC174 S hs hp tq q w h2).mono ?_
       rintro e w' ⟨N, rfl, -, -, hb⟩
       exact ⟨⟨_, N, rfl⟩, hb⟩)
  · first
    | (refine (Any.strconv_ParseInt_10_at32_range_var Tryd.laysC174 S hs hp tq q w h2).mono ?_
       rintro e w' ⟨N, rfl, -, -, hb⟩
       exact ⟨⟨_, N, rfl⟩, hb⟩)
    | (refine (Any.strconv_ParseInt_10_at32_syntax_var Tryd.laysC174 S hs hp tp p w h1).mono ?_
       rintro e w' ⟨N, rfl, -, -, hb⟩
       exact ⟨⟨_, N, rfl⟩, hb⟩)

/-- Not a hexadecimal text. -/
def NotHex (S : ByteArray) : Prop := ∀ c r, S.data.toList = c :: r → c ≠ 35
theorem wRead_dec (B : Nat) (S : ByteArray) (w : World) (hS : NotHex S) (hs : S.size ≤ 281474976710656) (hL : Laid B w) (hB : B ≤ w.heap.size) :
    Calls Tryd.prog 34 #[.string S] w (RetV (readV S.data.toList) w) := by
  have hHL := Lib.hid hL
  have hfirst : S.size = 0 ∨ (0 < S.size ∧ ∃ c : UInt8, c ≠ 35 ∧ S.data[0]? = some c) := by
    cases hl : S.data.toList with
    | nil => left; rw [← str_size, hl]; rfl
    | cons c r => right; exact ⟨by rw [← str_size, hl]; simp, c, hS c r hl, (str_parts hl).2.1⟩
  have HN := Lib.hid hS
  clear hS hL
  by_cases hp : ∃ v, Lib.parseIntB 32 S.data.toList = .ok v
  · obtain ⟨v, hp⟩ := hp
    have hb := Lib.parseIntB_bounds hp
    have hv : is32 v := by unfold is32; simp at hb; omega
    have hP := Lib.hid (fun w => parse_ok S v w hs hp)
    have hI := Lib.hid (fun w h => itoa_any B v w hv h)
    obtain ⟨v0, v1⟩ := hv
    rcases hfirst with h0 | ⟨h0, c, hc, hd⟩
    · have : S.data.toList = [] := List.eq_nil_of_length_eq_zero (by rw [str_size, h0])
      rw [this] at hp; cases hp
    have h00 : 0 < (S.size : Int) := by omega
    have hc0 : S[0] = c := str_first hd h0
    have hc1 : ((c.toNat : Int) == 35) = false := by
      have : (35 : Int) = (((35 : UInt8).toNat : Nat) : Int) := rfl
      rw [this, eq_toNat]; simpa using hc
    have hw : wrap32 v = v := by unfold wrap32; omega
    by_cases he : Lib.itoa v = S.data.toList
    · have hr : Hid (readF S.data.toList = (v, 0)) := Lib.hid (by rw [← he]; exact readF_dec ⟨v0, v1⟩)
      have hSI : ({ data := (Lib.itoa v).toArray } : ByteArray) = S := by rw [he]
      rw [hSI] at hI
      clear he hSI hp hb hd
      go_enter Tryd.func34, Tryd.ntmps34
      go_wp2_with (first
        | (go_at_call 51; refine (hP.out _).mono ?_; rintro e w1 ⟨rfl, hb1⟩; have hL1 := Lib.hid (hHL.out.call hb1 hB))
        | (go_at_call 29; refine (hI.out _ hL1.out).mono ?_; rintro e w2 ⟨rfl, hb2⟩))
      go_ret2
      exact ⟨rr_eq hr.out, hb1.trans (hb2.mono hb1.size)⟩
    · have hr : Hid (readF S.data.toList = (0, 5)) := Lib.hid (readF_decno HN.out fun v' _ h' h'' => by
        rw [hp] at h'
        injection h' with h'
        subst h'
        exact he h'')
      obtain ⟨T, hT⟩ : ∃ T : ByteArray, ({ data := (Lib.itoa v).toArray } : ByteArray) = T := ⟨_, rfl⟩
      have hTS : ¬ T = S := fun h => he (by rw [← h, ← hT])
      have hTS2 : (T.toList == S.toList) = false := str_ne hTS
      rw [hT] at hI
      clear he hp hb hd hT
      go_enter Tryd.func34, Tryd.ntmps34
      go_wp2_with (first
        | (go_at_call 51; refine (hP.out _).mono ?_; rintro e w1 ⟨rfl, hb1⟩; have hL1 := Lib.hid (hHL.out.call hb1 hB))
        | (go_at_call 29; refine (hI.out _ hL1.out).mono ?_; rintro e w2 ⟨rfl, hb2⟩))
      go_ret2
      exact ⟨rr_eq hr.out, hb1.trans (hb2.mono hb1.size)⟩
  · have hp' : ∀ v, Lib.parseIntB 32 S.data.toList ≠ .ok v := fun v h => hp ⟨v, h⟩
    have hr : Hid (readF S.data.toList = (0, 5)) := Lib.hid (readF_decno HN.out fun v' _ h' => absurd h' (hp' v'))
    have hP := Lib.hid (fun w h => parse_no B S w hs h hp')
    clear hp hp'
    rcases hfirst with h0 | ⟨h0, c, hc, hd⟩
    · have h00 : ¬ 0 < (S.size : Int) := by omega
      have h01 : ¬ 0 < S.size := by omega
      have H0 := Lib.hid h0
      clear h0
      go_enter Tryd.func34, Tryd.ntmps34
      go_wp2_with (first
        | (go_at_call 51; refine (hP.out _ hHL.out).mono ?_; rintro e w1 ⟨⟨V, N, rfl⟩, hb1⟩))
      go_ret2
      exact ⟨rr_eq hr.out, hb1⟩
    · have h00 : 0 < (S.size : Int) := by omega
      have hc0 : S[0] = c := str_first hd h0
      have hc1 : ((c.toNat : Int) == 35) = false := by
        have : (35 : Int) = (((35 : UInt8).toNat : Nat) : Int) := rfl
        rw [this, eq_toNat]; simpa using hc
      clear hd
      go_enter Tryd.func34, Tryd.ntmps34
      go_wp2_with (first
        | (go_at_call 51; refine (hP.out _ hHL.out).mono ?_; rintro e w1 ⟨⟨V, N, rfl⟩, hb1⟩))
      go_ret2
      exact ⟨rr_eq hr.out, hb1⟩
theorem wRead (B : Nat) (S : ByteArray) (w : World) (hs : S.size ≤ 281474976710656) (hL : Laid B w) (hB : B ≤ w.heap.size) :
    Calls Tryd.prog 34 #[.string S] w (RetV (readV S.data.toList) w) := by
  by_cases h : NotHex S
  · exact wRead_dec B S w h hs hL hB
  · unfold NotHex at h
    simp only [Classical.not_forall] at h
    obtain ⟨c, r, h1, h2⟩ := h
    obtain rfl : c = 35 := by simpa using h2
    exact wRead_hex S r w h1

theorem valR_bound (b : Nat) (hb : b ≤ 16) (l : List UInt8) (h : l.length ≤ 11) : valR b l < 17592186044416 := by
  have h1 := valR_lt b hb l
  have h2 : (16 : Nat) ^ l.length ≤ 16 ^ 11 := Nat.pow_le_pow_right (by decide) h
  have e : (16 : Nat) ^ 11 = 17592186044416 := by decide
  omega
end Go.Proofs.YtaakhhnlmldegaaDoor
