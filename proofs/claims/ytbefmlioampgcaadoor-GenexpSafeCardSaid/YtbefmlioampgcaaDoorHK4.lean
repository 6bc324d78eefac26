/- Texts that belong together, joined: what each one holds is told ahead of it. -/
import Derived.Test.YtbefmlioampgcaaDoorHK3
import Derived.Lib.IndexBytes
import Derived.Lib.ParseIntBTie
import Derived.Shelf.Small.Strs
import Derived.Lib.Bytealg
set_option linter.unusedVariables false
set_option linter.unusedSimpArgs false
/- What is written as a line is read as that line, by the program and by the reference. -/
namespace Go.Proofs.YtbefmlioampgcaaDoor
open Go.RowKit
set_option linter.unusedVariables false
set_option linter.unusedSimpArgs false

theorem letter_ne {c : UInt8} (h : letterB c = true) : c ≠ 58 ∧ c ≠ 32 ∧ c ≠ 45 ∧ c ≠ 10 ∧ ¬ (48 ≤ c.toNat ∧ c.toNat ≤ 57) ∧ c.toNat ≠ 43 := by
  simp only [letterB, Bool.or_eq_true, Bool.and_eq_true, decide_eq_true_eq] at h
  refine ⟨?_, ?_, ?_, ?_, by omega, by omega⟩ <;> (rintro rfl; revert h; decide)
theorem other_ne {c : UInt8} (h : otherB c = true) : c ≠ 58 ∧ c ≠ 32 ∧ c ≠ 45 ∧ c ≠ 10 := by
  simp only [otherB, Bool.or_eq_true, Bool.and_eq_true, decide_eq_true_eq, beq_iff_eq] at h
  refine ⟨?_, ?_, ?_, ?_⟩ <;> (rintro rfl; revert h; decide)
theorem label_chars {l : List UInt8} (h : labelB l = true) : ∀ c ∈ l, c ≠ 58 ∧ c ≠ 32 ∧ c ≠ 45 ∧ c ≠ 10 := by
  cases l with
  | nil => intro c hc; cases hc
  | cons a r =>
    simp only [labelB, Bool.and_eq_true, List.all_eq_true] at h
    intro c hc
    rcases List.mem_cons.1 hc with rfl | hc
    · have := letter_ne h.1.1; exact ⟨this.1, this.2.1, this.2.2.1, this.2.2.2.1⟩
    · rcases Bool.or_eq_true_iff.1 (h.1.2 c hc) with h1 | h1
      · have := letter_ne h1; exact ⟨this.1, this.2.1, this.2.2.1, this.2.2.2.1⟩
      · exact other_ne h1
theorem label_head {l : List UInt8} (h : labelB l = true) : ∃ c r, l = c :: r ∧ letterB c = true := by
  cases l with
  | nil => cases h
  | cons a r =>
    simp only [labelB, Bool.and_eq_true] at h
    exact ⟨a, r, rfl, h.1.1⟩
theorem label_ne {l : List UInt8} (h : labelB l = true) : l ≠ [] := by
  obtain ⟨c, r, rfl, -⟩ := label_head h
  simp
theorem low_ne {c : UInt8} (h : (97 ≤ c.toNat ∧ c.toNat ≤ 122) ∨ (48 ≤ c.toNat ∧ c.toNat ≤ 57)) : c ≠ 58 ∧ c ≠ 32 ∧ c ≠ 45 ∧ c ≠ 10 := by
  refine ⟨?_, ?_, ?_, ?_⟩ <;> (rintro rfl; revert h; decide)
theorem dec_chars (u : Nat) : ∀ c ∈ Lib.decDigits u, 48 ≤ c.toNat ∧ c.toNat ≤ 57 := by
  obtain ⟨N, _, _, g3⟩ := dec_N u
  rw [g3]
  intro c hc
  have : ∀ i, ∀ c ∈ digL 10 i u, 48 ≤ c.toNat ∧ c.toNat ≤ 57 := by
    intro i
    induction i with
    | zero => intro c hc; cases hc
    | succ i ih =>
      intro c hc
      rw [digL] at hc
      rcases List.mem_cons.1 hc with rfl | hc
      · have := dig_range (u / 10 ^ i % 10) (by omega); exact ⟨this.1, this.2.1⟩
      · exact ih c hc
  exact this _ c hc
theorem itoa_chars (v : Int) : ∀ c ∈ Lib.itoa v, c = 45 ∨ (48 ≤ c.toNat ∧ c.toNat ≤ 57) := by
  intro c hc
  by_cases h : v < 0
  · rw [itoa_neg' h] at hc
    rcases List.mem_cons.1 hc with rfl | hc
    · exact .inl rfl
    · exact .inr (dec_chars _ c hc)
  · rw [itoa_pos (by omega)] at hc
    exact .inr (dec_chars _ c hc)
theorem itoa_ne (v : Int) : ∀ c ∈ Lib.itoa v, c ≠ 58 ∧ c ≠ 10 ∧ c ≠ 32 := by
  intro c hc
  rcases itoa_chars v c hc with rfl | h
  · decide
  · refine ⟨?_, ?_, ?_⟩ <;> (rintro rfl; revert h; decide)

theorem idx2_no : ∀ l : List UInt8, (∀ c ∈ l, c ≠ 58) → Lib.index l [58, 32] = -1
  | [], _ => rfl
  | b :: l, h => by
    have ih := idx2_no l fun c hc => h c (by simp [hc])
    have hb : b ≠ 58 := h b (by simp)
    have e : ([58, 32] : List UInt8).isPrefixOf (b :: l) = false := by
      simp [List.isPrefixOf, Ne.symm hb]
    rw [Lib.index, e, ih]; rfl
theorem idx2_hit : ∀ (pre rest : List UInt8), (∀ c ∈ pre, c ≠ 58) → Lib.index (pre ++ 58 :: 32 :: rest) [58, 32] = pre.length
  | [], rest, _ => by
    have e : ([58, 32] : List UInt8).isPrefixOf (58 :: 32 :: rest) = true := by simp [List.isPrefixOf]
    rw [List.nil_append, Lib.index, e]; rfl
  | b :: pre, rest, h => by
    have ih := idx2_hit pre rest fun c hc => h c (by simp [hc])
    have hb : b ≠ 58 := h b (by simp)
    have e : ([58, 32] : List UInt8).isPrefixOf (b :: (pre ++ 58 :: 32 :: rest)) = false := by
      simp [List.isPrefixOf, Ne.symm hb]
    rw [List.cons_append, Lib.index, e, ih]
    have e2 : (((pre.length : Int)) == -1) = false := by rw [beq_eq_false_iff_ne]; omega
    rw [e2]
    simp
theorem cut2_no {l : List UInt8} (h : ∀ c ∈ l, c ≠ 58) : Lib.cut l [58, 32] = (l, [], false) := by
  unfold Lib.cut; rw [idx2_no l h]; rfl
theorem cut2_hit {pre : List UInt8} (rest : List UInt8) (h : ∀ c ∈ pre, c ≠ 58) : Lib.cut (pre ++ 58 :: 32 :: rest) [58, 32] = (pre, rest, true) := by
  unfold Lib.cut
  rw [idx2_hit pre rest h, if_pos (by omega)]
  have e : (pre ++ 58 :: 32 :: rest).drop (pre.length + 2) = rest := by
    rw [List.drop_append]; simp
  simp [e]
theorem tw_hit (c : UInt8) {l : List UInt8} (m : List UInt8) (h : ∀ d ∈ l, d ≠ c) : (l ++ c :: m).takeWhile (· != c) = l ∧ (l ++ c :: m).dropWhile (· != c) = c :: m := by
  induction l with
  | nil => simp
  | cons d l ih =>
    have hc : (d != c) = true := by simpa using h d (by simp)
    obtain ⟨h1, h2⟩ := ih fun e he => h e (by simp [he])
    simp [hc, h1, h2]
theorem tw_no (c : UInt8) {l : List UInt8} (h : ∀ d ∈ l, d ≠ c) : l.takeWhile (· != c) = l ∧ l.dropWhile (· != c) = [] := by
  induction l with
  | nil => simp
  | cons d l ih =>
    have hc : (d != c) = true := by simpa using h d (by simp)
    obtain ⟨h1, h2⟩ := ih fun e he => h e (by simp [he])
    simp [hc, h1, h2]
theorem findI_any : ∀ f : Nat, f < 15 → f ≠ 2 → f ≠ 6 → ∃ r, findI (f : Int) 0 = some r ∧ r ∈ tabF ++ tabO ∧ r.fn = f ∧ r.arg = 0 := by
  intro f h1 h2 h3
  have h : ∀ f : Nat, f < 15 → f ≠ 2 → f ≠ 6 → (findI (f : Int) 0).isSome = true := by decide
  obtain ⟨r, hr⟩ := Option.isSome_iff_exists.1 (h f h1 h2 h3)
  obtain ⟨hm, hc⟩ := findI_some hr
  rcases hc with ⟨e, _⟩ | ⟨_, e1, e2⟩
  · omega
  · exact ⟨r, hr, hm, by omega, e2⟩
theorem parse_letter {c : UInt8} (r : List UInt8) (h : letterB c = true) : ∀ v, Lib.parseIntB 32 (c :: r) ≠ .ok v := by
  intro v hv
  obtain ⟨-, -, h45, -, hd, h43⟩ := letter_ne h
  have h45' : c.toNat ≠ 45 := fun e => h45 (by apply UInt8.toNat_inj.1; rw [e]; rfl)
  rw [Lib.parseIntB_plain 32 c r h43 h45'] at hv
  unfold Lib.parseUintB at hv
  rw [if_neg (by simp), Lib.parseUintM, if_neg hd] at hv
  cases hv
/-- The parts of a valid line. -/
theorem valid_parts {x : LineL} (h : validB x = true) : (x.label = [] ∨ labelB x.label = true) ∧ ∃ r, findI (x.fn : Int) x.arg = some r ∧ r ∈ tabF ++ tabO ∧ r.fn = x.fn ∧
    ((x.target = [] ∧ x.frm = [] ∧ ((x.fn = 15 ∧ (r.arg : Int) = x.arg) ∨ (x.fn ≠ 15 ∧ r.arg = 0))) ∨
     (labelB x.target = true ∧ (x.frm = [] ∨ labelB x.frm = true) ∧ x.arg = 0 ∧ x.fn ≠ 15 ∧ r.arg = 0)) := by
  unfold validB at h
  rw [Bool.and_eq_true] at h
  obtain ⟨h1, h2⟩ := h
  refine ⟨by simpa [List.isEmpty_iff] using h1, ?_⟩
  by_cases ht : x.target = []
  · rw [if_pos (by simp [ht])] at h2
    simp only [Bool.and_eq_true, List.isEmpty_iff] at h2
    obtain ⟨r, hr⟩ := Option.isSome_iff_exists.1 h2.2
    obtain ⟨hm, hc⟩ := findI_some hr
    refine ⟨r, hr, hm, ?_, .inl ⟨ht, h2.1, ?_⟩⟩
    · rcases hc with ⟨e1, e2, _⟩ | ⟨_, e1, _⟩ <;> omega
    · rcases hc with ⟨e1, e2, e3⟩ | ⟨e0, e1, e2⟩
      · exact .inl ⟨by omega, e3⟩
      · exact .inr ⟨by omega, e2⟩
  · rw [if_neg (by simp [ht])] at h2
    simp only [Bool.and_eq_true, Bool.or_eq_true, List.isEmpty_iff, beq_iff_eq, decide_eq_true_eq, Bool.not_eq_true', beq_eq_false_iff_ne] at h2
    obtain ⟨⟨⟨⟨⟨a1, a2⟩, a3⟩, a4⟩, a5⟩, a6⟩ := h2
    obtain ⟨r, hr, hm, e1, e2⟩ := findI_any x.fn a4 a5 a6
    exact ⟨r, by rw [a3]; exact hr, hm, e1, .inr ⟨a1, a2, a3, by omega, e2⟩⟩
/-- What a line's text is behind its label. -/
theorem body_ne {x : LineL} (h : validB x = true) : ∀ c ∈ nameT x ++ tailT x, c ≠ 58 ∧ c ≠ 10 := by
  obtain ⟨-, r, hr, hm, -, hc⟩ := valid_parts h
  intro c hc'
  rcases List.mem_append.1 hc' with h1 | h1
  · unfold nameT at h1
    rw [hr] at h1
    have := low_ne (name_low r hm c h1)
    exact ⟨this.1, this.2.2.2⟩
  · unfold tailT at h1
    rcases hc with ⟨t1, t2, -⟩ | ⟨t1, t2, t3, t4, -⟩
    · split at h1
      · cases h1
      · rw [if_pos (by simp [t1])] at h1
        rcases List.mem_cons.1 h1 with rfl | h1
        · decide
        · have := itoa_ne x.arg c h1; exact ⟨this.1, this.2.1⟩
    · rw [if_neg t4, if_neg (by simp [label_ne t1])] at h1
      have hl : ∀ c ∈ x.target, c ≠ 58 ∧ c ≠ 10 := fun c hc => by have := label_chars t1 c hc; exact ⟨this.1, this.2.2.2⟩
      split at h1
      · rcases List.mem_cons.1 h1 with rfl | h1
        · decide
        · exact hl c h1
      · rename_i hf
        have hf' : labelB x.frm = true := by
          rcases t2 with h | h
          · rw [h] at hf; simp at hf
          · exact h
        rcases List.mem_cons.1 h1 with rfl | h1
        · decide
        · rcases List.mem_append.1 h1 with h1 | h1
          · exact hl c h1
          · rcases List.mem_cons.1 h1 with rfl | h1
            · decide
            · have := label_chars hf' c h1; exact ⟨this.1, this.2.2.2⟩
theorem name_sp {x : LineL} {r : IRow} (hr : findI (x.fn : Int) x.arg = some r) (hm : r ∈ tabF ++ tabO) : nameT x = r.name ∧ ∀ c ∈ r.name, c ≠ 32 := by
  refine ⟨by unfold nameT; rw [hr]; rfl, (row_ok hm).2.1⟩
theorem line_ext {x : LineL} {lab : List UInt8} {f : Nat} {a : Int} {t m : List UInt8} (h1 : lab = x.label) (h2 : f = x.fn) (h3 : a = x.arg) (h4 : t = x.target) (h5 : m = x.frm) : (⟨lab, f, a, t, m⟩ : LineL) = x := by
  subst h1 h2 h3 h4 h5; rfl
theorem parseA_one {x : LineL} (h : validB x = true) (ha : is32 x.arg) : parseA x.label (nameT x ++ tailT x) = x := by
  obtain ⟨-, r, hr, hm, hf, hc⟩ := valid_parts h
  obtain ⟨e1, e2⟩ := name_sp hr hm
  rw [e1]
  unfold tailT
  rcases hc with ⟨t1, t2, (⟨h15, e3⟩ | ⟨h15, e3⟩)⟩ | ⟨t1, t2, t3, h15, e3⟩
  · rw [if_pos h15, List.append_nil]
    obtain ⟨w1, w2⟩ := tw_no 32 e2
    unfold parseA
    simp only [w1, w2, named_of hm, Option.getD_some]
    exact line_ext rfl hf e3 t1.symm t2.symm
  · rw [if_neg h15, if_pos (by simp [t1])]
    obtain ⟨w1, w2⟩ := tw_hit 32 (textL x.arg false) e2
    unfold parseA
    have hp : Lib.parseIntB 32 (textL x.arg false) = .ok x.arg := parse_itoa x.arg ha
    simp only [w1, w2, named_of hm, Option.getD_some, hp]
    exact line_ext rfl hf rfl t1.symm t2.symm
  · rw [if_neg h15, if_neg (by simp [label_ne t1])]
    obtain ⟨c, q, hq, hl⟩ := label_head t1
    have key : ∀ o, (o = x.target ∨ ∃ s, o = x.target ++ 45 :: s) → ∀ v, Lib.parseIntB 32 o ≠ .ok v := by
      rintro o (rfl | ⟨s, rfl⟩)
      · rw [hq]; exact parse_letter q hl
      · rw [hq, List.cons_append]; exact parse_letter _ hl
    have h45 : ∀ d ∈ x.target, d ≠ 45 := fun d hd => (label_chars t1 d hd).2.2.1
    split
    · rename_i hfe
      obtain ⟨w1, w2⟩ := tw_hit 32 x.target e2
      obtain ⟨w3, w4⟩ := tw_no 45 h45
      have hk := key x.target (.inl rfl)
      unfold parseA
      simp only [w1, w2, named_of hm, Option.getD_some]
      rw [w3, w4]
      exact line_ext rfl hf (by rw [t3, e3]; rfl) rfl (List.isEmpty_iff.1 hfe).symm
    · obtain ⟨w1, w2⟩ := tw_hit 32 (x.target ++ 45 :: x.frm) e2
      obtain ⟨w3, w4⟩ := tw_hit 45 x.frm h45
      have hk := key _ (.inr ⟨x.frm, rfl⟩)
      unfold parseA
      simp only [w1, w2, named_of hm, Option.getD_some]
      rw [w3, w4]
      exact line_ext rfl hf (by rw [t3, e3]; rfl) rfl rfl
theorem parseP_no {l : List UInt8} (h : Lib.cut l [58, 32] = (l, [], false)) : parseP l = parseA [] l := by unfold parseP; rw [h]; rfl
theorem parseP_hit {l pre rest : List UInt8} (h : Lib.cut l [58, 32] = (pre, rest, true)) : parseP l = parseA pre rest := by unfold parseP; rw [h]; rfl
theorem oneT_no {x : LineL} (h : x.label = []) : oneT x = nameT x ++ tailT x := by
  unfold oneT; rw [if_pos (by rw [h]; rfl)]; rfl
theorem oneT_lab {x : LineL} (h : x.label ≠ []) : oneT x = x.label ++ 58 :: 32 :: (nameT x ++ tailT x) := by
  unfold oneT
  rw [if_neg (fun e => h (List.isEmpty_iff.1 e))]
  simp
theorem parseP_one {x : LineL} (h : validB x = true) (ha : is32 x.arg) : parseP (oneT x) = x := by
  have hb := body_ne h
  obtain ⟨hl, -⟩ := valid_parts h
  by_cases he : x.label = []
  · rw [oneT_no he, parseP_no (cut2_no fun c hc => (hb c hc).1)]
    have := parseA_one h ha
    rwa [he] at this
  · have hlab : labelB x.label = true := by rcases hl with h | h; exact absurd h he; exact h
    rw [oneT_lab he, parseP_hit (cut2_hit _ fun c hc => (label_chars hlab c hc).1)]
    exact parseA_one h ha
end Go.Proofs.YtbefmlioampgcaaDoor

/- The reference's reading of a line, and the reading of a whole text. -/
namespace Go.Proofs.YtbefmlioampgcaaDoor
open Go.RowKit
set_option linter.unusedVariables false
set_option linter.unusedSimpArgs false

theorem num_step (c : UInt8) (n : Nat) : (if 48 ≤ c.toNat ∧ c.toNat ≤ 57 then 10 * n + (c.toNat - 48) else n) = stepR 10 c n 10 := by
  unfold stepR hit isHexB hv
  by_cases h : 48 ≤ c.toNat ∧ c.toNat ≤ 57
  · have e : (decide (48 ≤ c.toNat) && decide (c.toNat ≤ 57) || decide (65 ≤ c.toNat) && decide (c.toNat ≤ 70)) = true := by simp [h]
    rw [if_pos h, if_pos e, if_pos h.2, if_pos (by omega)]
  · rw [if_neg h]
    by_cases e : (decide (48 ≤ c.toNat) && decide (c.toNat ≤ 57) || decide (65 ≤ c.toNat) && decide (c.toNat ≤ 70)) = true
    · have e2 : 65 ≤ c.toNat ∧ c.toNat ≤ 70 := by
        simp only [Bool.or_eq_true, Bool.and_eq_true, decide_eq_true_eq] at e
        rcases e with e | e
        · exact absurd e h
        · exact e
      have e3 : ¬ c.toNat ≤ 57 := by omega
      rw [if_pos e, if_neg e3, if_neg (by omega)]
    · rw [if_neg e, if_neg (by omega)]
theorem numR_val (l : List UInt8) (h : l.length ≤ 11) : numR l = wrap32 (if l.head? = some 45 then -(valR 10 l : Int) else (valR 10 l : Int)) := by
  unfold numR valR
  rw [List.take_of_length_le h]
  have e : (fun (n : Nat) (c : UInt8) => if 48 ≤ c.toNat ∧ c.toNat ≤ 57 then 10 * n + (c.toNat - 48) else n) = fun n c => stepR 10 c n 10 := by
    funext n c; exact num_step c n
  simp only [e]
theorem valR_minus (l : List UInt8) : valR 10 (45 :: l) = valR 10 l := by
  have e : stepR 10 45 0 10 = 0 := by decide
  simp only [valR, List.foldl_cons, e]
theorem wrap32_id {v : Int} (h : is32 v) : wrap32 v = v := by
  obtain ⟨h1, h2⟩ := h
  unfold wrap32; omega
theorem numR_text {v : Int} (h : is32 v) : numR (textL v false) = v := by
  have hl := (textL_len (g := false) h).2
  rw [numR_val _ hl]
  have e : textL v false = Lib.itoa v := rfl
  rw [e]
  obtain ⟨c, r, hc, -, -, (⟨h1, rfl, rfl⟩ | ⟨h1, h2⟩)⟩ := itoa_head v
  · rw [hc, valR_minus, valR_dec]
    have e2 : (45 :: Lib.decDigits v.natAbs).head? = some 45 := rfl
    rw [if_pos e2]
    have e3 : -((v.natAbs : Nat) : Int) = v := by omega
    rw [e3, wrap32_id h]
  · have e2 : ¬ (Lib.itoa v).head? = some 45 := by
      rw [hc]
      simp only [List.head?_cons, Option.some.injEq]
      rintro rfl
      exact h2 rfl
    rw [if_neg e2, itoa_pos h1, valR_dec]
    have e3 : ((v.toNat : Nat) : Int) = v := by omega
    rw [e3, wrap32_id h]
def numHead (o : List UInt8) : Bool := match o with | [] => false | c :: _ => c == 45 || (decide (48 ≤ c.toNat) && decide (c.toNat ≤ 57))
theorem numHead_text (v : Int) : numHead (textL v false) = true := by
  have e : textL v false = Lib.itoa v := rfl
  obtain ⟨c, r, hc, -⟩ := itoa_head v
  rw [e, hc]
  have := itoa_chars v c (by rw [hc]; simp)
  simp only [numHead, Bool.or_eq_true, beq_iff_eq, Bool.and_eq_true, decide_eq_true_eq]
  exact this
theorem numHead_letter {c : UInt8} (r : List UInt8) (h : letterB c = true) : numHead (c :: r) = false := by
  obtain ⟨-, -, h45, -, hd, -⟩ := letter_ne h
  simp only [numHead, Bool.or_eq_false_iff, beq_eq_false_iff_ne, Bool.and_eq_false_iff, decide_eq_false_iff_not]
  exact ⟨h45, by omega⟩
theorem parseB_eq (lab t : List UInt8) : parseB lab t = match t.dropWhile (· != 32) with
    | [] => ⟨lab, ((namedI (t.takeWhile (· != 32))).getD irow0).fn, ((namedI (t.takeWhile (· != 32))).getD irow0).arg, [], []⟩
    | _ :: o => if numHead o = true then ⟨lab, ((namedI (t.takeWhile (· != 32))).getD irow0).fn, numR o, [], []⟩
      else ⟨lab, ((namedI (t.takeWhile (· != 32))).getD irow0).fn, ((namedI (t.takeWhile (· != 32))).getD irow0).arg, o.takeWhile (· != 45), (o.dropWhile (· != 45)).tail⟩ := rfl
theorem parseB_one {x : LineL} (h : validB x = true) (ha : is32 x.arg) : parseB x.label (nameT x ++ tailT x) = x := by
  obtain ⟨-, r, hr, hm, hf, hc⟩ := valid_parts h
  obtain ⟨e1, e2⟩ := name_sp hr hm
  rw [e1]
  unfold tailT
  rcases hc with ⟨t1, t2, (⟨h15, e3⟩ | ⟨h15, e3⟩)⟩ | ⟨t1, t2, t3, h15, e3⟩
  · rw [if_pos h15, List.append_nil]
    obtain ⟨w1, w2⟩ := tw_no 32 e2
    rw [parseB_eq]
    simp only [w1, w2, named_of hm, Option.getD_some]
    exact line_ext rfl hf e3 t1.symm t2.symm
  · rw [if_neg h15, if_pos (by simp [t1])]
    obtain ⟨w1, w2⟩ := tw_hit 32 (textL x.arg false) e2
    rw [parseB_eq]
    simp only [w1, w2, named_of hm, Option.getD_some, numHead_text, if_true]
    exact line_ext rfl hf (numR_text ha) t1.symm t2.symm
  · rw [if_neg h15, if_neg (by simp [label_ne t1])]
    obtain ⟨c, q, hq, hl⟩ := label_head t1
    have h45 : ∀ d ∈ x.target, d ≠ 45 := fun d hd => (label_chars t1 d hd).2.2.1
    split
    · rename_i hfe
      obtain ⟨w1, w2⟩ := tw_hit 32 x.target e2
      obtain ⟨w3, w4⟩ := tw_no 45 h45
      have hk : numHead x.target = false := by rw [hq]; exact numHead_letter q hl
      rw [parseB_eq]
      simp only [w1, w2, named_of hm, Option.getD_some, hk, Bool.false_eq_true, if_false]
      rw [w3, w4]
      exact line_ext rfl hf (by rw [t3, e3]; rfl) rfl (List.isEmpty_iff.1 hfe).symm
    · obtain ⟨w1, w2⟩ := tw_hit 32 (x.target ++ 45 :: x.frm) e2
      obtain ⟨w3, w4⟩ := tw_hit 45 x.frm h45
      have hk : numHead (x.target ++ 45 :: x.frm) = false := by rw [hq, List.cons_append]; exact numHead_letter _ hl
      rw [parseB_eq]
      simp only [w1, w2, named_of hm, Option.getD_some, hk, Bool.false_eq_true, if_false]
      rw [w3, w4]
      exact line_ext rfl hf (by rw [t3, e3]; rfl) rfl rfl
theorem parseR_one {x : LineL} (h : validB x = true) (ha : is32 x.arg) : parseR (oneT x) = x := by
  have hb := body_ne h
  obtain ⟨hl, -⟩ := valid_parts h
  unfold parseR
  by_cases he : x.label = []
  · rw [oneT_no he]
    obtain ⟨w1, -⟩ := tw_no 58 fun c hc => (hb c hc).1
    rw [w1, if_neg (by omega)]
    have := parseB_one h ha
    rwa [he] at this
  · have hlab : labelB x.label = true := by rcases hl with h | h; exact absurd h he; exact h
    rw [oneT_lab he]
    obtain ⟨w1, -⟩ := tw_hit 58 (32 :: (nameT x ++ tailT x)) fun c hc => (label_chars hlab c hc).1
    rw [w1, if_pos (by simp only [List.length_append, List.length_cons]; omega)]
    have e2 : (x.label ++ 58 :: 32 :: (nameT x ++ tailT x)).drop (x.label.length + 2) = nameT x ++ tailT x := by
      rw [List.drop_append]; simp
    rw [e2]
    exact parseB_one h ha
theorem row_is32 (o : Option IRow) (h : ∀ r, o = some r → r ∈ tabF ++ tabO) : is32 ((o.getD irow0).arg : Int) := by
  cases o with
  | none => exact ⟨by decide, by decide⟩
  | some r =>
    have hm := h r rfl
    have : r.arg < 256 := by
      rcases List.mem_append.1 hm with h1 | h1
      · have := (tabF_ok r h1).2.1; omega
      · exact (tabO_ok r h1).2.1
    show is32 (r.arg : Int)
    unfold is32; omega
theorem named_mem (n : List UInt8) : ∀ r, namedI n = some r → r ∈ tabF ++ tabO := fun _ h => (named_some h).1
theorem parseA_is32 (lab t : List UInt8) : is32 (parseA lab t).arg := by
  unfold parseA
  simp only
  split
  · exact row_is32 _ (named_mem _)
  · split
    · rename_i v hv
      have h1 := Lib.parseIntB_bounds hv
      show is32 v
      unfold is32
      simp at h1
      omega
    · exact row_is32 _ (named_mem _)
theorem parseP_is32 (l : List UInt8) : is32 (parseP l).arg := by
  unfold parseP; split <;> exact parseA_is32 _ _
theorem wrap32_is32 (v : Int) : is32 (wrap32 v) := by unfold is32 wrap32; omega
theorem parseB_is32 (lab t : List UInt8) : is32 (parseB lab t).arg := by
  rw [parseB_eq]
  split
  · exact row_is32 _ (named_mem _)
  · split
    · exact wrap32_is32 _
    · exact row_is32 _ (named_mem _)
theorem parseR_is32 (l : List UInt8) : is32 (parseR l).arg := by
  unfold parseR; split <;> exact parseB_is32 _ _
/-- The line whose text this is. -/
def lineP (t : List UInt8) : Option LineL := if validB (parseP t) && oneT (parseP t) == t then some (parseP t) else none
theorem lineP_some {t : List UInt8} {x : LineL} (h : lineP t = some x) : validB x = true ∧ oneT x = t ∧ is32 x.arg := by
  unfold lineP at h
  split at h
  · rename_i hc
    obtain rfl := Option.some.inj h
    simp only [Bool.and_eq_true, beq_iff_eq] at hc
    exact ⟨hc.1, hc.2, parseP_is32 t⟩
  · cases h
theorem lineP_one {x : LineL} (h : validB x = true) (ha : is32 x.arg) : lineP (oneT x) = some x := by
  unfold lineP
  rw [parseP_one h ha, h]
  simp
theorem lineR_eq (t : List UInt8) : (if validB (parseR t) && oneT (parseR t) == t then some (parseR t) else none) = lineP t := by
  split
  · rename_i hc
    simp only [Bool.and_eq_true, beq_iff_eq] at hc
    rw [← lineP_one hc.1 (parseR_is32 t), hc.2]
  · rename_i hc
    cases h : lineP t with
    | none => rfl
    | some x =>
      obtain ⟨h1, h2, h3⟩ := lineP_some h
      exfalso
      apply hc
      rw [← h2, parseR_one h1 h3, h1]
      simp
/-- The lines whose text this is, or the number of the first one that is none. -/
def readT : Nat → List UInt8 → List LineL → Nat → List LineL × Nat × Int
  | 0, _, acc, _ => (acc, 0, 0)
  | f + 1, s, acc, n =>
    match s with
    | [] => (acc, 0, 0)
    | b :: s' =>
      match (b :: s').dropWhile (· != 10) with
      | [] => ([], n + 1, 5)
      | _ :: rest =>
        match lineP ((b :: s').takeWhile (· != 10)) with
        | none => ([], n + 1, 5)
        | some x => readT f rest (acc ++ [x]) (n + 1)
theorem oneT_ne {x : LineL} (h : validB x = true) : ∀ c ∈ oneT x, c ≠ 10 := by
  intro c hc
  unfold oneT at hc
  rcases List.mem_append.1 hc with h1 | h1
  · split at h1
    · cases h1
    · rename_i he
      obtain ⟨hl, -⟩ := valid_parts h
      have hlab : labelB x.label = true := by
        rcases hl with h | h
        · rw [h] at he; simp at he
        · exact h
      rcases List.mem_append.1 h1 with h1 | h1
      · exact (label_chars hlab c h1).2.2.2
      · simp only [List.mem_cons, List.not_mem_nil, or_false] at h1
        rcases h1 with rfl | rfl <;> decide
  · exact (body_ne h c h1).2
theorem readT_text : ∀ (ls : List LineL) (f : Nat) (acc : List LineL) (n : Nat), (∀ x ∈ ls, validB x = true ∧ is32 x.arg) → ls.length < f → readT f (textT ls) acc n = (acc ++ ls, 0, 0)
  | [], f + 1, acc, n, _, _ => by simp [textT, readT]
  | x :: ls, f + 1, acc, n, h, hf => by
    obtain ⟨hx, ha⟩ := h x (by simp)
    have e : textT (x :: ls) = oneT x ++ 10 :: textT ls := by simp [textT]
    obtain ⟨w1, w2⟩ := tw_hit 10 (textT ls) (oneT_ne hx)
    have ih := readT_text ls f (acc ++ [x]) (n + 1) (fun y hy => h y (by simp [hy])) (by simp at hf; omega)
    rw [e]
    generalize hs : oneT x ++ 10 :: textT ls = s at *
    cases s with
    | nil => simp at hs
    | cons b s' =>
      rw [readT]
      simp only [w1, w2, lineP_one hx ha]
      rw [ih]
      simp
end Go.Proofs.YtbefmlioampgcaaDoor

/- strings.Cut at one space, of a string of any length, walked; digits of the tables. -/
namespace Go.Proofs.YtbefmlioampgcaaDoor
open Go.RowKit Go.Shelf

theorem idx_tw (c : UInt8) : ∀ l : List UInt8, Lib.indexByte l c = if l.dropWhile (· != c) = [] then -1 else ((l.takeWhile (· != c)).length : Int)
  | [] => rfl
  | b :: l => by
    have ih := idx_tw c l
    rw [Lib.indexByte]
    by_cases h : b = c
    · subst h; simp
    · have h1 : (b == c) = false := by simpa using h
      have h2 : (b != c) = true := by simpa using h
      simp only [h1, List.dropWhile_cons, List.takeWhile_cons, h2, if_true]
      rw [ih]
      by_cases h3 : l.dropWhile (· != c) = []
      · simp [h3]
      · have h4 : ¬ (((l.takeWhile (· != c)).length : Int) == -1) = true := by simp
        simp only [h3, if_false, Bool.false_eq_true, h4, List.length_cons, Int.natCast_add, Int.natCast_one]
theorem take_tw (c : UInt8) (l : List UInt8) : l.take (l.takeWhile (· != c)).length = l.takeWhile (· != c) := by
  induction l with
  | nil => rfl
  | cons b l ih =>
    rw [List.takeWhile_cons]
    split
    · rw [List.length_cons, List.take_succ_cons, ih]
    · rfl
theorem drop_tw (c : UInt8) (l : List UInt8) : l.drop (l.takeWhile (· != c)).length = l.dropWhile (· != c) := by
  induction l with
  | nil => rfl
  | cons b l ih =>
    rw [List.takeWhile_cons, List.dropWhile_cons]
    split
    · rw [List.length_cons, List.drop_succ_cons, ih]
    · rfl
theorem drop_tw1 (c : UInt8) (l : List UInt8) : l.drop ((l.takeWhile (· != c)).length + 1) = (l.dropWhile (· != c)).tail := by
  rw [← drop_tw, List.tail_drop]
theorem tw_le (c : UInt8) (l : List UInt8) : (l.takeWhile (· != c)).length ≤ l.length := (List.takeWhile_sublist _).length_le
theorem tw_lt (c : UInt8) (l : List UInt8) (h : l.dropWhile (· != c) ≠ []) : (l.takeWhile (· != c)).length < l.length := by
  have h1 := tw_le c l
  rcases Nat.lt_or_eq_of_le h1 with h2 | h2
  · exact h2
  · exact absurd (by rw [← drop_tw, h2]; simp) h
theorem tw_none (c : UInt8) (l : List UInt8) (h : l.dropWhile (· != c) = []) : l.takeWhile (· != c) = l := by
  have := List.takeWhile_append_dropWhile (p := (· != c)) (l := l)
  rw [h, List.append_nil] at this; exact this
end Go.Proofs.YtbefmlioampgcaaDoor

/- Read and Text, of the program and of the reference, walked. -/
namespace Go.Proofs.YtbefmlioampgcaaDoor
open Go.RowKit
set_option linter.unusedVariables false
set_option linter.unusedSimpArgs false

theorem str_append (a b : List UInt8) : strB a ++ strB b = strB (a ++ b) := by
  apply ByteArray.ext
  simp [strB, ByteArray.data_append]
theorem str_ne {S T : ByteArray} (h : ¬ S = T) : (S.toList == T.toList) = false := by
  rw [ByteArray.toList_eq, ByteArray.toList_eq, beq_eq_false_iff_ne]
  intro h2
  exact h (ByteArray.ext (Array.toList_inj.1 h2))
theorem strB_of (S : ByteArray) : strB S.data.toList = S := rfl

/-- Read's answer. -/
noncomputable def readV (l : List UInt8) : Value := .tuple #[.int .i32 (readF l).1, .int .i64 (readF l).2]
theorem rr_eq {l : List UInt8} {v e : Int} (h : readF l = (v, e)) : Ending.returned (.tuple #[.int .i32 v, .int .i64 e]) = .returned (readV l) := by rw [readV, h]

/-- A string known by its first byte. -/
theorem str_parts {S : ByteArray} {c : UInt8} {r : List UInt8} (hS : S.data.toList = c :: r) : S.size = r.length + 1 ∧ S.data[0]? = some c ∧ (S.extract 1 S.size).data.toList = r := by
  have hl : S.size = r.length + 1 := by
    have : S.data.toList.length = S.size := by rw [Array.length_toList]; rfl
    rw [hS] at this; simp at this; omega
  refine ⟨hl, ?_, ?_⟩
  · rw [← Array.getElem?_toList, hS]; rfl
  · simp [ByteArray.data_extract, hS, hl]
theorem str_first {S : ByteArray} {c : UInt8} (h : S.data[0]? = some c) (h0 : 0 < S.size) : S[0] = c := by
  rw [ByteArray.getElem_eq_getElem_data]
  have h1 : S.data[0]? = some S.data[0] := Array.getElem?_eq_getElem h0
  rw [h1] at h
  exact Option.some.inj h
theorem str_size (S : ByteArray) : S.data.toList.length = S.size := by rw [Array.length_toList]; rfl

def HexNo (w : World) (e : Ending) (w' : World) : Prop := (∃ V : Int, e = .returned (.tuple #[.int .u32 V, .bool false])) ∧ Below w.heap.size w w'
/-- Not a hexadecimal text. -/
def NotHex (S : ByteArray) : Prop := ∀ c r, S.data.toList = c :: r → c ≠ 35
theorem valR_bound (b : Nat) (hb : b ≤ 16) (l : List UInt8) (h : l.length ≤ 11) : valR b l < 17592186044416 := by
  have h1 := valR_lt b hb l
  have h2 : (16 : Nat) ^ l.length ≤ 16 ^ 11 := Nat.pow_le_pow_right (by decide) h
  have e : (16 : Nat) ^ 11 = 17592186044416 := by decide
  omega
end Go.Proofs.YtbefmlioampgcaaDoor

/- strings.Cut at one space, digits of the tables, and the maker of the rows' iterator, walked. -/
namespace Go.Proofs.YtbefmlioampgcaaDoor
open Go.RowKit Go.Shelf

def sp1 : ByteArray := ⟨#[32]⟩
theorem idx_one : Lib.indexByte [32] 32 = 0 := rfl
theorem sp1_list : (({ data := #[32] } : ByteArray)).toList = [32] := by rw [ByteArray.toList_eq]
/-- strings.Cut at one space. -/
def cutV (l : List UInt8) : Value := .tuple #[.string (strB (l.takeWhile (· != 32))), .string (strB (l.dropWhile (· != 32)).tail), .bool (!(l.dropWhile (· != 32)).isEmpty)]
theorem ext_take (S : ByteArray) (k : Nat) : S.extract 0 k = strB (S.data.toList.take k) := by
  apply ByteArray.ext
  simp only [strB, ByteArray.data_extract]
  apply Array.ext'
  simp only [Array.toList_extract, List.extract_eq_take_drop, Nat.sub_zero, List.drop_zero]
theorem ext_drop (S : ByteArray) (k : Nat) : S.extract k S.size = strB (S.data.toList.drop k) := by
  apply ByteArray.ext
  simp only [strB, ByteArray.data_extract]
  apply Array.ext'
  simp only [Array.toList_extract, List.extract_eq_take_drop]
  rw [List.take_of_length_le (by rw [List.length_drop, str_size]; exact Nat.le_refl _)]
def RetD (v : Value) (w : World) (e : Ending) (w' : World) : Prop := e = .returned v ∧ ∃ n, w' = w.drewN n
theorem dig_idx : ∀ d, d < 16 → Lib.indexByte [48, 49, 50, 51, 52, 53, 54, 55, 56, 57, 65, 66, 67, 68, 69, 70] (dig d) = d := by decide
theorem idigit (d : Nat) (h : d < 16) (w : World) : Calls Tryd.prog 78 #[.int .u8 (dig d).toNat] w (RetQ (.int .i32 d) w) := by
  have hI := Lib.hid (fun w => Any.strings_IndexByte Tryd.lays137 ⟨#[48, 49, 50, 51, 52, 53, 54, 55, 56, 57, 65, 66, 67, 68, 69, 70]⟩ ((dig d).toNat : Int) w)
  have e := dig_idx d h
  have e2 : (((dig d).toNat : Int).toNat).toUInt8 = dig d := by simp
  go_enter Tryd.func78, Tryd.ntmps78
  go_wp2_with (first
    | (go_at_call 102; refine (hI.out _).mono ?_; rintro e w1 ⟨rfl, rfl⟩; rw [e2, e]))
  go_ret
  exact ⟨rfl, rfl⟩
theorem irows (w : World) : Calls Tryd.prog 79 #[] w (RetQ (.func (.func 103) #[] #[]) w) := by
  go_enter Tryd.func79, Tryd.ntmps79
  go_wp2
  go_ret
  exact ⟨rfl, rfl⟩
end Go.Proofs.YtbefmlioampgcaaDoor
