/- The law's own function walk. -/
import Derived.Test.YtadpenphiagdmaaL6
import Derived.Test.YtadpenphiagdmaaP7
namespace Go.Proofs.Ytadpenphiagdmaa
open Go.RowKit
set_option linter.unusedVariables false
set_option linter.unusedSimpArgs false

/-- A slice and a bool, handed back. -/
def RetSB (xs : List Int) (b : Bool) (w : World) (e : Ending) (w' : World) : Prop :=
  ∃ A c, e = .returned (.tuple #[.slice A xs.length c, .bool b]) ∧ Reads w' w'.heap.size 1 A xs.length (icells xs) ∧ Below w.heap.size w w'
set_option maxRecDepth 100000 in
set_option maxHeartbeats 1000000 in
theorem lwalk (N hn hl : Int) (A : Option Addr) (m c : Nat) (ws : List Wire) (node : Int) (B : Option Addr) (n d : Nat) (l way : List Int) (w : World) (hr : Reads w w.heap.size 4 A m (wcells ws)) (hm : m ≤ 1000000)
    (hrl : Reads w w.heap.size 1 B n (icells l)) (hn1 : n ≤ 100) (hok : WayOk (rpeerOf N ws hn hl) node l way) :
    Calls Try.prog 23 #[.agg #[.int .i64 N, .slice A m c, .int .i64 hn, .int .i64 hl], .int .i64 node, .slice B n d] w (RetSB way true w) := by
  obtain ⟨i0, hi0, hz0, hz1, hz2⟩ := info_parts int_info
  have hln : l.length = n := by have := hrl.1; rw [icells_length] at this; omega
  obtain ⟨o1, o2, o3⟩ := hok
  have O1 := Lib.hid o1; clear o1
  have O2 := Lib.hid o2; clear o2
  have O3 := Lib.hid o3; clear o3
  have HL := Lib.hid hln; clear hln
  obtain ⟨k1, k2, k3⟩ := lay2 w #[.int .i64 N, .slice A m c, .int .i64 hn, .int .i64 hl] #[.int .i64 node] 26 3
  have hown0 := World.ownsRow_lit (base := w.heap.size + 1) (e := 3) (size := 1) (w.alloc (.cells #[.int .i64 N, .slice A m c, .int .i64 hn, .int .i64 hl] 26)) #[.int .i64 node] 1 (by simp) (by unfold maxLen; omega) rfl
  simp only [World.size_alloc] at hown0
  go_enter Try.func23, Try.ntmps23
  go_wp2
  go_loopw [1, 8, 17] (fun x v i wr => ∃ (k : Nat) (nd : Int), x = .int .i64 nd ∧ i = .int .i64 k ∧ k ≤ n ∧ Hid (way[k]? = some nd) ∧ wr.ownsRow (w.heap.size + 1) 3 1 v (k + 1) (icells (way.take (k + 1))) ∧
      Below w.heap.size w wr ∧ Blk wr w.heap.size 26 #[.int .i64 N, .slice A m c, .int .i64 hn, .int .i64 hl]) (fun _ _ i _ => n - (intOf i).toNat)
  case atStart =>
    refine ⟨0, node, rfl, rfl, by omega, O2, ?_, k1, k2⟩
    have e : way.take 1 = [node] := by
      obtain ⟨y, r, rfl⟩ : ∃ y r, way = y :: r := by
        rcases way with _ | ⟨y, r⟩
        · have := O2.out; simp at this
        · exact ⟨y, r, rfl⟩
      have := O2.out
      simp at this; subst this; rfl
    rw [e]; exact hown0
  case round =>
    clear k1 k2 k3 hown0
    obtain ⟨k, nd, rfl, rfl, hk, Hnd, hown, hB, b0⟩ := hrel
    have c00 := b0.cell 0
    have c01 := b0.cell 1
    have c02 := b0.cell 2
    have c03 := b0.cell 3
    simp at c00 c01 c02 c03
    have b0s := b0.lt
    have hr1 := hr.up hB (Nat.le_of_lt b0s)
    by_cases hlt : k < n
    · have hki : (k : Int) < (n : Int) := by omega
      obtain ⟨bl, ol, rfl, hbl, hcl⟩ := (hrl.up hB (Nat.le_of_lt b0s)).addr (by omega) (by omega)
      obtain ⟨lk, elk⟩ : ∃ x, l[k]? = some x := ⟨_, List.getElem?_eq_getElem (by rw [HL.out]; exact hlt)⟩
      have cl := hcl _ _ (icells_get elk)
      clear hcl
      obtain ⟨z, dz, hz, hz2⟩ := O3.out k nd lk Hnd.out elk
      have Elk := Lib.hid elk; clear elk
      have Hz2 := Lib.hid hz2; clear hz2
      have HP := Lib.hid (fun w hr => tPeer N hn hl nd lk A m c ws w hr hm)
      rw [hz] at HP
      clear hz
      go_wp2_with (first
        | (go_at_call 20; refine (HP.out _ hr1).mono ?_; unfold peerV; rintro e w2 ⟨rfl, hb2⟩
           have b2 := b0.call hb2
           have k2 := hB.call (Nat.le_of_lt b0s) hb2
           have hown2 := hown.below hb2
           have b2s := b2.lt)
        | (at_builtin; refine app_own Try.underlying28 hi0 hz0 hz1 hz2 rfl (by decide) ((hown2.alloc _).alloc _) (by simp <;> omega) rfl (.tmp 33) (.tmp 35) rfl rfl (w2.heap.size + 1) 1 1 #[.int .i64 z] rfl (by simpa using Blk.new (w2.alloc _) 3 #[.int .i64 z]) rfl (by simp [Value.oneCell']) (by omega) (by omega) ?_; intro v' w' hown5 _ hB5 _))
      go_roundw
      case rel =>
        refine ⟨k + 1, z, rfl, by go_num, by omega, Hz2, ?_, ((k2.alloc k2.size _).alloc (by have := k2.size; simp; omega) _).trans (hB5.mono (by omega)), ((b2.alloc _).alloc _).below hB5 (by omega)⟩
        have e : way.take (k + 1 + 1) = way.take (k + 1) ++ [z] := by rw [List.take_add_one, Hz2.out]; rfl
        rw [e, icells, List.map_append]; exact hown5
      case measure => simp [intOf]; omega
    · obtain rfl : k = n := by omega
      have e : way.take (k + 1) = way := List.take_of_length_le (by rw [O1.out, HL.out]; omega)
      rw [e] at hown
      have el : way.length = k + 1 := by rw [O1.out, HL.out]
      have Hel := Lib.hid el; clear el e
      obtain ⟨g7, cap7, rfl, _, _⟩ := ownsRow_pos hown (by omega)
      go_wp2
      go_ret2
      have rr := Reads.of_own hown
      rw [← Hel.out] at rr ⊢
      exact ⟨_, _, rfl, rr, hB⟩
end Go.Proofs.Ytadpenphiagdmaa
