/- Plain words for InstrNames and InstrWrong: mnemonics in the other case, a space that is doubled. -/
import Derived.Test.YtaakhhnlmldegaaDoorI1
import Derived.Lib.Case
import Derived.Lib.Replace
import Derived.Lib.IndexBytes
namespace Go.Proofs.YtaakhhnlmldegaaDoor
open Go.RowKit
set_option linter.unusedVariables false
set_option linter.unusedSimpArgs false

theorem case_names : ∀ r ∈ tabF ++ tabO, Lib.toLowerA r.name = r.name ∧ Lib.indexByte r.name 32 = -1 ∧ Lib.toUpperA r.name = r.name.map upB := by decide +kernel
theorem name_ascii : ∀ r ∈ tabF ++ tabO, ∀ c ∈ r.name, c.toNat < 128 := by
  intro r hr c hc
  have := name_low r hr c hc
  omega
theorem idx_sp {l : List UInt8} (m : List UInt8) (h : ∀ c ∈ l, c ≠ 32) : Lib.index (l ++ 32 :: m) [32] = l.length := by
  obtain ⟨w1, w2⟩ := takeWhile_all (m := m) h
  rw [Lib.index_one, idx_tw, w1, w2, if_neg (by simp)]
theorem rep_text {l : List UInt8} (m : List UInt8) (h : ∀ c ∈ l, c ≠ 32) : Lib.replace (l ++ 32 :: m) [32] [32, 32] 1 = l ++ 32 :: 32 :: m := by
  have hi := idx_sp m h
  have hn : ¬ (Lib.index (l ++ 32 :: m) [32] == -1) = true := fun e => by have := beq_iff_eq.1 e; omega
  have hc : Lib.count (l ++ 32 :: m) [32] ≠ 0 := by
    unfold Lib.count Lib.countFrom
    rw [if_neg hn]; omega
  have hr : Lib.replaceNum (l ++ 32 :: m) [32] 1 = 1 := by
    unfold Lib.replaceNum
    rw [if_neg (by omega)]; rfl
  unfold Lib.replace
  rw [if_neg (by decide), hr, Lib.replaceK_hit _ _ _ _ _ hi, Lib.replaceK]
  have e1 : (l ++ 32 :: m).take l.length = l := by simp
  have e2 : (l ++ 32 :: m).drop (l.length + ([32] : List UInt8).length) = m := by
    rw [List.drop_append]; simp
  rw [e1, e2]
  simp
end Go.Proofs.YtaakhhnlmldegaaDoor
