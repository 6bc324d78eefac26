/- The program's valid, May, Peer, Tree, inside, above. -/
import Derived.Test.YtadpenphiagdmaaP2
import Derived.Test.YtadpenphiagdmaaM3
namespace Go.Proofs.Ytadpenphiagdmaa
open Go.RowKit
set_option linter.unusedVariables false
set_option linter.unusedSimpArgs false

def cntOk (N hn hl : Int) (ws : List Wire) : Bool := decide (((orderOf ws hn hl).length : Int) = N)
/-- What valid hands back. -/
def RetK (N hn hl : Int) (ws : List Wire) (cs : Nat → Array Value) (w : World) (e : Ending) (w' : World) : Prop :=
  Below w.heap.size w w' ∧ ((joinB N hn hl ws = false ∧ e = .returned (.tuple #[.pointer none, .slice none 0 0, .bool false])) ∨
    (joinB N hn hl ws = true ∧ ∃ g r b, e = .returned (.tuple #[.pointer (some ⟨g, 0, none⟩), .slice (some ⟨b, 0, none⟩) N.toNat N.toNat, .bool (cntOk N hn hl ws)]) ∧
      Blk w' g 63 (cs r) ∧ MapIs w' r (pairs ws) ∧ Blk w' b 3 (tarr N (orderOf ws hn hl)) ∧ w.heap.size ≤ g ∧ w.heap.size ≤ b))

set_option maxRecDepth 100000 in
set_option maxHeartbeats 1000000 in
theorem tvalid (N hn hl : Int) (A : Option Addr) (m c : Nat) (ws : List Wire) (w : World) (hr : Reads w w.heap.size 4 A m (wcells ws)) (hm : m ≤ 1000000) :
    Calls Try.prog 26 #[.agg #[.int .i64 N, .slice A m c, .int .i64 hn, .int .i64 hl]] w (RetK N hn hl ws (gcells N hn hl A m c) w) := by
  obtain ⟨k1, k2⟩ := lay1 w #[.int .i64 N, .slice A m c, .int .i64 hn, .int .i64 hl] 26
  have hr0 := hr.up k1 (by simp <;> omega)
  have HJ := Lib.hid (tjoin N hn hl A m c ws (w.alloc (.cells #[.int .i64 N, .slice A m c, .int .i64 hn, .int .i64 hl] 26)) hr0 hm)
  go_enter Try.func26, Try.ntmps26
  go_wp2_with (first
    | (go_at_call 35; refine HJ.out.mono ?_; rintro e w1 ⟨hb1, (⟨hj, rfl⟩ | ⟨hj, g, r, rfl, bg, hM, hgl⟩)⟩)
    | (go_at_call 36; refine (ttree N hn hl A m c g r ws (joinB_net hj) w1 bg hM).mono ?_; rintro e w2 ⟨hb2, b, hbl, rfl, bt⟩
       have bg2 := bg.call hb2
       have hM2 := hM.call hb2
       have hB2 := (k1.call (by simp <;> omega) hb1).call (by have := hb1.size; simp at this; omega) hb2
       have b02 := (k2.call hb1).call hb2
       have c0 := b02.cell 0
       simp at c0))
  · go_ret3
    exact ⟨k1.call (by simp <;> omega) hb1, .inl ⟨hj, rfl⟩⟩
  · go_quiet (fail)
    go_wp2
    go_ret3
    have hs1 := hb1.size
    simp at hs1 hgl
    refine ⟨hB2.drewN' _, .inr ⟨hj, g, r, b, ?_, bg2.drewN _, hM2.drewN _, bt.drewN _, by omega, by omega⟩⟩
    have e : cntOk N hn hl ws = (((orderOf ws hn hl).length : Int) == N) := by rw [cntOk, Bool.eq_iff_iff]; simp
    rw [e]; rfl

theorem tvalid_no (N hn hl : Int) (A : Option Addr) (m c : Nat) (ws : List Wire) (w : World) (hr : Reads w w.heap.size 4 A m (wcells ws)) (hm : m ≤ 1000000) (h : mayB N ws hn hl = false) :
    Calls Try.prog 26 #[.agg #[.int .i64 N, .slice A m c, .int .i64 hn, .int .i64 hl]] w fun e w' => Below w.heap.size w w' ∧ ∃ p s, e = .returned (.tuple #[p, s, .bool false]) := by
  refine (tvalid N hn hl A m c ws w hr hm).mono ?_
  rintro e w1 ⟨hb, (⟨hj, rfl⟩ | ⟨hj, g, r, b, rfl, bg, hM, bt, hgl, hbl⟩)⟩
  · exact ⟨hb, _, _, rfl⟩
  · refine ⟨hb, .pointer (some ⟨g, 0, none⟩), .slice (some ⟨b, 0, none⟩) N.toNat N.toNat, ?_⟩
    rw [mayB_join, hj, Bool.true_and] at h
    rw [cntOk, h]
theorem tvalid_yes (N hn hl : Int) (A : Option Addr) (m c : Nat) (ws : List Wire) (w : World) (hr : Reads w w.heap.size 4 A m (wcells ws)) (hm : m ≤ 1000000) (h : mayB N ws hn hl = true) :
    Calls Try.prog 26 #[.agg #[.int .i64 N, .slice A m c, .int .i64 hn, .int .i64 hl]] w fun e w' => Below w.heap.size w w' ∧ ∃ g r b, e = .returned (.tuple #[.pointer (some ⟨g, 0, none⟩), .slice (some ⟨b, 0, none⟩) N.toNat N.toNat, .bool true]) ∧
      Blk w' g 63 (gcells N hn hl A m c r) ∧ MapIs w' r (pairs ws) ∧ Blk w' b 3 (tarr N (orderOf ws hn hl)) ∧ w.heap.size ≤ g ∧ w.heap.size ≤ b := by
  refine (tvalid N hn hl A m c ws w hr hm).mono ?_
  rw [mayB_join, Bool.and_eq_true] at h
  rintro e w1 ⟨hb, (⟨hj, rfl⟩ | ⟨hj, g, r, b, rfl, bg, hM, bt, hgl, hbl⟩)⟩
  · rw [hj] at h; cases h.1
  · exact ⟨hb, g, r, b, by rw [cntOk, h.2], bg, hM, bt, hgl, hbl⟩

set_option maxRecDepth 100000 in
set_option maxHeartbeats 1000000 in
theorem tmay (N hn hl : Int) (A : Option Addr) (m c : Nat) (ws : List Wire) (w : World) (hr : Reads w w.heap.size 4 A m (wcells ws)) (hm : m ≤ 1000000) :
    Calls Try.prog 18 #[.agg #[.int .i64 N, .slice A m c, .int .i64 hn, .int .i64 hl]] w (RetV (.bool (mayB N ws hn hl)) w) := by
  obtain ⟨k1, k2⟩ := lay1 w #[.int .i64 N, .slice A m c, .int .i64 hn, .int .i64 hl] 26
  have hr0 := hr.up k1 (by simp <;> omega)
  cases hmay : mayB N ws hn hl
  · have HJ := Lib.hid (tvalid_no N hn hl A m c ws (w.alloc (.cells #[.int .i64 N, .slice A m c, .int .i64 hn, .int .i64 hl] 26)) hr0 hm hmay)
    clear hmay
    go_enter Try.func18, Try.ntmps18
    go_wp2_with (go_at_call 26; refine HJ.out.mono ?_; rintro e w1 ⟨hb1, p, s, rfl⟩)
    go_ret
    exact ⟨rfl, k1.call (by simp <;> omega) hb1⟩
  · have HJ := Lib.hid (tvalid_yes N hn hl A m c ws (w.alloc (.cells #[.int .i64 N, .slice A m c, .int .i64 hn, .int .i64 hl] 26)) hr0 hm hmay)
    clear hmay
    go_enter Try.func18, Try.ntmps18
    go_wp2_with (go_at_call 26; refine HJ.out.mono ?_; rintro e w1 ⟨hb1, g, r, b, rfl, bg, hM, bt, hgl, hbl⟩)
    go_ret
    exact ⟨rfl, k1.call (by simp <;> omega) hb1⟩

def tints (N : Int) (l : List Pt) : List Int := l.foldl (fun a p => a.set p.1.toNat p.2) (List.replicate N.toNat 0)
theorem tints_arr (N : Int) (l : List Pt) : (tarr N l).toList = icells (tints N l) := by
  have : ∀ (l : List Pt) (a : Array Value) (b : List Int), a.toList = icells b → (l.foldl (fun a p => a.setIfInBounds p.1.toNat (.int .i64 p.2)) a).toList = icells (l.foldl (fun a p => a.set p.1.toNat p.2) b) := by
    intro l
    induction l with
    | nil => exact fun a b h => h
    | cons p r ih =>
      intro a b h
      rw [List.foldl_cons, List.foldl_cons]
      exact ih _ _ (by rw [Array.toList_setIfInBounds, h]; simp [icells, List.map_set])
  exact this l _ _ (by simp [icells])
theorem tints_length (N : Int) (l : List Pt) : (tints N l).length = N.toNat := by
  have h := congrArg List.length (tints_arr N l)
  rw [Array.length_toList, tarr_size, icells_length] at h
  exact h.symm
def tTreeR (N : Int) (ws : List Wire) (hn hl : Int) : List Int × Int := if mayB N ws hn hl then (tints N (orderOf ws hn hl), 0) else ([], 2)

theorem RetSE.of_blk {w w' : World} {b n : Nat} {t : TypeId} {cs : Array Value} {xs : List Int} {k : Int} (h : Blk w' b t cs) (hc : cs.toList = icells xs) (hn : xs.length = n) (hB : Below w.heap.size w w') : RetSE xs k w (.returned (.tuple #[.slice (some ⟨b, 0, none⟩) n n, .int .i64 k])) w' := by
  subst hn
  refine ⟨_, _, rfl, ⟨by rw [icells_length]; omega, fun _ => ⟨_, rfl, h.lt, fun j u hu => ?_⟩⟩, hB⟩
  have hadd : (⟨b, 0, none⟩ : Addr).add j = ⟨b, j, none⟩ := by unfold Addr.add; split <;> simp_all
  rw [hadd, h.cell j, ← hu, ← hc, Array.getElem?_toList]

set_option maxRecDepth 100000 in
set_option maxHeartbeats 1000000 in
theorem tTree (N hn hl : Int) (A : Option Addr) (m c : Nat) (ws : List Wire) (w : World) (hr : Reads w w.heap.size 4 A m (wcells ws)) (hm : m ≤ 1000000) :
    Calls Try.prog 10 #[.agg #[.int .i64 N, .slice A m c, .int .i64 hn, .int .i64 hl]] w (RetSE (tTreeR N ws hn hl).1 (tTreeR N ws hn hl).2 w) := by
  obtain ⟨k1, k2⟩ := lay1 w #[.int .i64 N, .slice A m c, .int .i64 hn, .int .i64 hl] 26
  have hr0 := hr.up k1 (by simp <;> omega)
  cases hmay : mayB N ws hn hl
  · have e : tTreeR N ws hn hl = ([], 2) := by simp [tTreeR, hmay]
    rw [e]
    have HJ := Lib.hid (tvalid_no N hn hl A m c ws (w.alloc (.cells #[.int .i64 N, .slice A m c, .int .i64 hn, .int .i64 hl] 26)) hr0 hm hmay)
    clear hmay e
    go_enter Try.func10, Try.ntmps10
    go_wp2_with (go_at_call 26; refine HJ.out.mono ?_; rintro e w1 ⟨hb1, p, s, rfl⟩)
    go_ret2
    exact RetSE.nil (k1.call (by simp <;> omega) hb1)
  · have e : tTreeR N ws hn hl = (tints N (orderOf ws hn hl), 0) := by simp [tTreeR, hmay]
    rw [e]
    have HJ := Lib.hid (tvalid_yes N hn hl A m c ws (w.alloc (.cells #[.int .i64 N, .slice A m c, .int .i64 hn, .int .i64 hl] 26)) hr0 hm hmay)
    clear hmay e
    go_enter Try.func10, Try.ntmps10
    go_wp2_with (go_at_call 26; refine HJ.out.mono ?_; rintro e w1 ⟨hb1, g, r, b, rfl, bg, hM, bt, hgl, hbl⟩)
    go_ret2
    exact RetSE.of_blk bt (tints_arr _ _) (tints_length _ _) (k1.call (by simp <;> omega) hb1)

set_option maxRecDepth 100000 in
set_option maxHeartbeats 1000000 in
theorem tinside (N hn hl : Int) (A : Option Addr) (m c : Nat) (ws : List Wire) (w : World) (hr : Reads w w.heap.size 4 A m (wcells ws)) (hm : m ≤ 1000000) (x : Int) :
    Calls Try.prog 28 #[.agg #[.int .i64 N, .slice A m c, .int .i64 hn, .int .i64 hl], .int .i64 x] w (RetV (.bool (decide (0 ≤ x) && decide (x < N))) w) := by
  obtain ⟨k1, k2⟩ := lay1 w #[.int .i64 N, .slice A m c, .int .i64 hn, .int .i64 hl] 26
  go_enter Try.func28, Try.ntmps28
  cases h0 : decide (0 ≤ x)
  · go_wp2
    go_ret
    exact ⟨rfl, k1⟩
  · go_wp2
    go_ret
    exact ⟨rfl, k1⟩
end Go.Proofs.Ytadpenphiagdmaa
