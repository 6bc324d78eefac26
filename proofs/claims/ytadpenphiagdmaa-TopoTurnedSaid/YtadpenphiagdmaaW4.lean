/- walks -/
import Derived.Test.YtadpenphiagdmaaW3
namespace Go.Proofs.Ytadpenphiagdmaa
open Go.RowKit
set_option linter.unusedVariables false
set_option linter.unusedSimpArgs false

def icells (l : List Int) : List Value := l.map (.int .i64)
theorem icells_get {l : List Int} {k : Nat} {x : Int} (h : l[k]? = some x) : (icells l)[k]? = some (.int .i64 x) := by simp [icells, h]

theorem sameL_no {xs ys : List Int} {k : Nat} {x y : Int} (hx : xs[k]? = some x) (hy : ys[k]? = some y) (h : x ≠ y) : decide (xs = ys) = false := by
  simp only [decide_eq_false_iff_not]
  rintro rfl
  rw [hx] at hy; injection hy with hy; exact h hy
theorem sameL_len {xs ys : List Int} (h : xs.length ≠ ys.length) : decide (xs = ys) = false := by
  simp only [decide_eq_false_iff_not]; rintro rfl; exact h rfl

set_option maxHeartbeats 400000 in
theorem rSame (A B : Option Addr) (n c m d : Nat) (xs ys : List Int) (w : World) (hx : Reads w w.heap.size 1 A n (icells xs)) (hy : Reads w w.heap.size 1 B m (icells ys)) (hn : n ≤ 1000000) :
    Calls Try.prog 12 #[.slice A n c, .slice B m d] w (RetV (.bool (decide (xs = ys))) w) := by
  have hxl : xs.length = n := by have := hx.1; simp [icells] at this; omega
  have hyl : ys.length = m := by have := hy.1; simp [icells] at this; omega
  by_cases hnm : n = m
  · subst hnm
    have Hx := Lib.hid hxl; clear hxl
    have Hy := Lib.hid hyl; clear hyl
    go_enter Try.func12, Try.ntmps12
    go_wp2
    go_loopw [5] (fun i wr => ∃ k : Nat, i = .int .i64 k ∧ k ≤ n ∧ Hid (xs.take k = ys.take k) ∧ ∃ q, wr = w.drewN q) (fun i _ => n - (intOf i).toNat)
    case atStart => exact ⟨0, rfl, by omega, rfl, 0, rfl⟩
    case round =>
      obtain ⟨k, rfl, hk, ht, q, rfl⟩ := hrel
      by_cases hlt : k < n
      · obtain ⟨b1, o1, rfl, hb1, hc1⟩ := hx.addr (by omega) (by omega)
        obtain ⟨b2, o2, rfl, hb2, hc2⟩ := hy.addr (by omega) (by omega)
        obtain ⟨x, ex⟩ : ∃ x, xs[k]? = some x := ⟨_, List.getElem?_eq_getElem (by rw [Hx.out]; exact hlt)⟩
        obtain ⟨y, ey⟩ : ∃ y, ys[k]? = some y := ⟨_, List.getElem?_eq_getElem (by rw [Hy.out]; exact hlt)⟩
        have c1 := hc1 _ _ (icells_get ex)
        have c2 := hc2 _ _ (icells_get ey)
        clear hc1 hc2
        have Ex := Lib.hid ex; clear ex
        have Ey := Lib.hid ey; clear ey
        have hki : (k : Int) < (n : Int) := by omega
        by_cases hxy : x = y
        · subst hxy
          go_wp2
          go_quiet (fail)
          go_wp2
          go_roundw
          case rel =>
            refine ⟨k + 1, by go_num, by omega, ?_, _, rfl⟩
            show _ = _
            obtain ⟨h1, h1'⟩ := List.getElem?_eq_some_iff.1 Ex.out
            obtain ⟨h2, h2'⟩ := List.getElem?_eq_some_iff.1 Ey.out
            rw [List.take_succ_eq_append_getElem h1, List.take_succ_eq_append_getElem h2, ht.out, h1', h2']
          case measure => simp [intOf]; omega
        · have hne : (x != y) = true := by simpa using hxy
          have Hne := Lib.hid hxy; clear hxy
          go_wp2
          go_quiet (fail)
          go_wp2
          go_ret
          rw [sameL_no Ex.out Ey.out Hne.out]
          exact ⟨rfl, ((Below.refl _ _).drewN' _).drewN' _⟩
      · obtain rfl : n = k := by omega
        go_wp2
        go_ret
        have h := ht.out
        rw [List.take_of_length_le (by rw [Hx.out]; omega), List.take_of_length_le (by rw [Hy.out]; omega)] at h
        refine ⟨?_, (Below.refl _ _).drewN' _⟩
        simp [h]
  · go_enter Try.func12, Try.ntmps12
    have hne : ((n : Int) != (m : Int)) = true := by simp; omega
    go_wp2
    go_ret
    rw [sameL_len (by omega)]
    exact ⟨rfl, Below.refl _ _⟩
end Go.Proofs.Ytadpenphiagdmaa
