/- The plain laws of chapter 05: wrong texts, other forms, mnemonics. -/
import Derived.Test.YtaakhhnlmldegaaDoorQ1
namespace Go.Proofs.YtaakhhnlmldegaaDoor
open Go.RowKit
set_option linter.unusedVariables false
set_option linter.unusedSimpArgs false

theorem dig_ne32 : ∀ d, d < 16 → dig d ≠ 32 := by decide
theorem digL_mem {b : Nat} (hb : 0 < b) (hb16 : b ≤ 16) (t : Nat) : ∀ i, ∀ c ∈ digL b i t, ∃ d, d < 16 ∧ c = dig d
  | 0, c, h => by cases h
  | i + 1, c, h => by
    rw [digL] at h
    rcases List.mem_cons.1 h with rfl | h
    · exact ⟨_, by have := Nat.mod_lt (t / b ^ i) hb; omega, rfl⟩
    · exact digL_mem hb hb16 t i c h
theorem dec_ne32 (u : Nat) : ∀ c ∈ Lib.decDigits u, c ≠ 32 := by
  obtain ⟨N, _, _, g3⟩ := dec_N u
  rw [g3]
  intro c hc
  obtain ⟨d, hd, rfl⟩ := digL_mem (by decide) (by decide) u _ c hc
  exact dig_ne32 d hd
theorem textL_ne32 (v : Int) (g : Bool) : ∀ c ∈ textL v g, c ≠ 32 := by
  intro c hc
  cases g
  · have hc' : c ∈ Lib.itoa v := hc
    by_cases h : v < 0
    · rw [itoa_neg' h] at hc'
      rcases List.mem_cons.1 hc' with rfl | h
      · decide
      · exact dec_ne32 _ c h
    · rw [itoa_pos (by omega)] at hc'
      exact dec_ne32 _ c hc'
  · have hc' : c ∈ 35 :: digL 16 8 (u32 v).toNat := hc
    rcases List.mem_cons.1 hc' with rfl | h
    · decide
    · obtain ⟨d, hd, rfl⟩ := digL_mem (by decide) (by decide) _ _ c h
      exact dig_ne32 d hd
theorem readF_space {l : List UInt8} (h : (32 : UInt8) ∈ l) : readF l = (0, 5) :=
  readF_no fun v g _ e => textL_ne32 v g 32 (e ▸ h) rfl
theorem named_none {n : List UInt8} (h : ∀ r ∈ tabF ++ tabO, r.name ≠ n) : namedI n = none := by
  unfold namedI
  rw [List.find?_eq_none]
  intro r hr
  simpa using h r hr
theorem named_some {n : List UInt8} {r : IRow} (h : namedI n = some r) : r ∈ tabF ++ tabO ∧ r.name = n := by
  unfold namedI at h
  have hp := List.find?_some h
  exact ⟨List.mem_of_find?_eq_some h, by simpa using hp⟩
theorem row_15 {r : IRow} (h : r ∈ tabF ++ tabO) : (r.fn = 15 ∧ r ∈ tabO ∧ r.arg < 256) ∨ (r.fn < 15 ∧ r ∈ tabF ∧ r.arg = 0) := by
  rcases List.mem_append.1 h with h | h
  · exact .inr ⟨(tabF_ok r h).1, h, (tabF_ok r h).2.1⟩
  · exact .inl ⟨(tabO_ok r h).1, h, (tabO_ok r h).2.1⟩
/-- A space in front. -/
theorem read_front (l : List UInt8) : readI (32 :: l) = (0, 0, 50) := by
  have h : namedI [] = none := named_none fun r hr => (row_ok hr).1
  rw [readI]
  have e : (32 :: l).takeWhile (fun x => x != 32) = [] := rfl
  rw [e, h]
/-- The parts of a text. -/
theorem text_parts {fn arg : Int} (h : (textI fn arg).2 = 0) : ∃ r, r ∈ tabF ++ tabO ∧ findI fn arg = some r ∧
    ((fn = 15 ∧ r.fn = 15 ∧ (r.arg : Int) = arg ∧ (textI fn arg).1 = r.name) ∨ (fn ≠ 15 ∧ (r.fn : Int) = fn ∧ r.fn ≠ 15 ∧ (textI fn arg).1 = r.name ++ 32 :: textL arg false)) := by
  unfold textI at h ⊢
  cases hf : findI fn arg with
  | none => rw [hf] at h; cases h
  | some r =>
    obtain ⟨hm, hc⟩ := findI_some hf
    refine ⟨r, hm, rfl, ?_⟩
    rcases hc with ⟨rfl, e1, e2⟩ | ⟨h15, e1, e2⟩
    · exact .inl ⟨rfl, e1, e2, by simp⟩
    · exact .inr ⟨h15, e1, fun h => h15 (by rw [← e1, h]; rfl), by simp [h15]⟩
theorem read_name {r : IRow} (hm : r ∈ tabF ++ tabO) (m : List UInt8) : readI (r.name ++ 32 :: m) = if r.fn = 15 then (0, 0, 5) else if (readF m).2 = 0 then ((r.fn : Int), (readF m).1, (0 : Int)) else (0, 0, 5) := by
  obtain ⟨t1, t2⟩ := takeWhile_all (m := m) (row_ok hm).2.1
  rw [readI, t1, named_of hm]
  simp only [t2]
theorem read_bare {r : IRow} (hm : r ∈ tabF ++ tabO) : readI r.name = if r.fn = 15 then ((r.fn : Int), (r.arg : Int), (0 : Int)) else (0, 0, 5) := by
  obtain ⟨t1, t2⟩ := takeWhile_none (row_ok hm).2.1
  rw [readI, t1, named_of hm]
  simp only [t2]
/-- A space behind. -/
theorem read_behind {fn arg : Int} (h : (textI fn arg).2 = 0) : readI ((textI fn arg).1 ++ [32]) = (0, 0, 5) := by
  obtain ⟨r, hm, _, ⟨rfl, e1, e2, e3⟩ | ⟨h15, e1, e2, e3⟩⟩ := text_parts h
  · rw [e3, read_name hm, if_pos e1]
  · rw [e3, List.append_assoc, List.cons_append, read_name hm, if_neg e2, readF_space (by simp)]
    rfl
/-- The space doubled. -/
theorem read_double {r : IRow} (hm : r ∈ tabF ++ tabO) (h : r.fn ≠ 15) (m : List UInt8) : readI (r.name ++ 32 :: 32 :: m) = (0, 0, 5) := by
  rw [read_name hm, if_neg h, readF_space (by simp)]
  rfl
theorem read_text2 {r : IRow} (hm : r ∈ tabF ++ tabO) (h : r.fn ≠ 15) {arg : Int} (ha : is32 arg) (g : Bool) : readI (r.name ++ 32 :: textL arg g) = ((r.fn : Int), arg, (0 : Int)) := by
  rw [read_name hm, if_neg h, readF_text ha]
  rfl
/-- Upper case. -/
def upB (c : UInt8) : UInt8 := if 97 ≤ c.toNat ∧ c.toNat ≤ 122 then c - 32 else c
theorem upper_none : ∀ r ∈ tabF ++ tabO, (∀ q ∈ tabF ++ tabO, q.name ≠ r.name.map upB) ∧ (∀ c ∈ r.name.map upB, c ≠ 32) ∧ r.name.map upB ≠ [] := by decide +kernel
theorem read_upper {r : IRow} (hm : r ∈ tabF ++ tabO) : readI (r.name.map upB) = (0, 0, 50) := by
  obtain ⟨h1, h2, h3⟩ := upper_none r hm
  rw [readI, (takeWhile_none h2).1, named_none h1]
theorem name_low : ∀ r ∈ tabF ++ tabO, ∀ c ∈ r.name, (97 ≤ c.toNat ∧ c.toNat ≤ 122) ∨ (48 ≤ c.toNat ∧ c.toNat ≤ 57) := by decide +kernel
theorem find_of_named {n : List UInt8} {r : IRow} (h : namedI n = some r) : findI r.fn r.arg = some r := by
  obtain ⟨hm, -⟩ := named_some h
  unfold findI
  rcases row_15 hm with ⟨h15, ho, _⟩ | ⟨h15, hf, h0⟩
  · rw [if_pos (by rw [h15]; rfl)]
    have := find_nodup (fun q : IRow => q.arg) tabO args_nodup r ho
    have e : (fun q : IRow => ((q.arg : Nat) : Int) == ((r.arg : Nat) : Int)) = fun q => q.arg == r.arg := by
      funext q; rw [Bool.eq_iff_iff]; simp; omega
    rw [e]; exact this
  · rw [if_neg (by omega)]
    have := find_nodup (fun q : IRow => q.fn) tabF fns_nodup r hf
    have e : (fun q : IRow => ((q.fn : Nat) : Int) == ((r.fn : Nat) : Int)) = fun q => q.fn == r.fn := by
      funext q; rw [Bool.eq_iff_iff]; simp; omega
    rw [e]; exact this
end Go.Proofs.YtaakhhnlmldegaaDoor
