/- walks -/
import Derived.Test.YtadpenphiagdmaaW4
namespace Go.Proofs.Ytadpenphiagdmaa
open Go.RowKit
set_option linter.unusedVariables false
set_option linter.unusedSimpArgs false

def upOf (ws : List Wire) (hn hl node : Int) : Pt := ((orderOf ws hn hl).find? (fun p => p.1 == node)).getD (0, 0)
def ptV (p : Pt) : Value := .agg #[.int .i64 p.1, .int .i64 p.2]

theorem find_take {l : List Pt} {node : Int} {k : Nat} {p : Pt} (hp : l[k]? = some p) (h : p.1 = node) (hn : (l.take k).find? (fun p => p.1 == node) = none) : l.find? (fun p => p.1 == node) = some p := by
  obtain ⟨hk, rfl⟩ := List.getElem?_eq_some_iff.1 hp
  have e : l.find? (fun p => p.1 == node) = (l.take k ++ l[k] :: l.drop (k + 1)).find? (fun p => p.1 == node) := by congr 1; rw [← List.drop_eq_getElem_cons hk, List.take_append_drop]
  rw [e, List.find?_append, hn, List.find?_cons_of_pos (by simp [h])]
  rfl
theorem find_take_succ {l : List Pt} {node : Int} {k : Nat} {p : Pt} (hp : l[k]? = some p) (h : p.1 ≠ node) (hn : (l.take k).find? (fun p => p.1 == node) = none) : (l.take (k + 1)).find? (fun p => p.1 == node) = none := by
  obtain ⟨hk, rfl⟩ := List.getElem?_eq_some_iff.1 hp
  rw [List.take_succ_eq_append_getElem hk, List.find?_append, hn]
  simp [h]

set_option maxRecDepth 100000 in
set_option maxHeartbeats 600000 in
theorem rup (N hn hl : Int) (A : Option Addr) (m c : Nat) (ws : List Wire) (node : Int) (w : World) (hr : Reads w w.heap.size 4 A m (wcells ws)) (hm : m ≤ 1000000) (hok : NetOk N ws hn) :
    Calls Try.prog 27 #[.agg #[.int .i64 N, .slice A m c, .int .i64 hn, .int .i64 hl], .int .i64 node] w (RetV (ptV (upOf ws hn hl node)) w) := by
  have Hok := Lib.hid hok; clear hok
  obtain ⟨k1, k2, k3⟩ := lay2 w #[.int .i64 N, .slice A m c, .int .i64 hn, .int .i64 hl] #[.int .i64 0, .int .i64 0] 26 24
  have hr0 := hr.up k1 (by simp <;> omega)
  have Ho := rOrder N hn hl A m c ws ((w.alloc (.cells #[.int .i64 N, .slice A m c, .int .i64 hn, .int .i64 hl] 26)).alloc (.cells #[.int .i64 0, .int .i64 0] 24)) hr0 hm Hok.out
  have HO := Lib.hid Ho; clear Ho
  go_enter Try.func27, Try.ntmps27
  go_wp2_with (go_at_call 34; refine HO.out.mono ?_; rintro e w1 ⟨A2, c2, rfl, hr2, hb1⟩)
  have b0 := k2.call hb1
  have b1 := k3.call hb1
  have hB : Below w.heap.size w w1 := k1.call (by simp <;> omega) hb1
  clear k1 k2 k3 hr0 HO hb1
  have hlen := hr2.1
  rw [pcells_length] at hlen
  obtain ⟨l, hl'⟩ : ∃ l, orderOf ws hn hl = l := ⟨_, rfl⟩
  have hup : upOf ws hn hl node = (l.find? (fun p => p.1 == node)).getD (0, 0) := by rw [upOf, hl']
  rw [hl'] at hr2
  have Hup := Lib.hid hup; clear hup
  have h8 := (order_found Hok.out hl).short Hok.out.n8
  rw [hl'] at h8 ⊢
  clear hl' hlen
  have c40 := b1.cell 0
  have c41 := b1.cell 1
  have f40 := b1.frozen 0
  have f41 := b1.frozen 1
  simp at c40 c41
  go_loopw [6] (fun i wr => ∃ k : Nat, i = .int .i64 k ∧ k ≤ l.length ∧ wr = w1 ∧ Hid ((l.take k).find? (fun p => p.1 == node) = none)) (fun i _ => l.length - (intOf i).toNat)
  case atStart => exact ⟨0, rfl, by omega, rfl, rfl⟩
  case round =>
    obtain ⟨k, rfl, hk, rfl, Hf⟩ := hrel
    by_cases hlt : k < l.length
    · obtain ⟨b2, o2, rfl, hb2, hc2⟩ := hr2.addr (by omega) (by omega)
      obtain ⟨p, hp⟩ : ∃ p, l[k]? = some p := ⟨_, List.getElem?_eq_getElem hlt⟩
      obtain ⟨e1, e2⟩ := pcells_get _ _ _ hp
      have d1 := hc2 _ _ e1
      have d2 := hc2 _ _ e2
      rw [← Nat.add_assoc] at d2
      clear hc2 e1 e2
      have Hp := Lib.hid hp; clear hp
      have hki : (k : Int) < (l.length : Int) := by omega
      by_cases hpn : p.1 = node
      · have hb : (p.1 == node) = true := by simpa using hpn
        have Hpn := Lib.hid hpn; clear hpn
        go_wp2
        refine bodyPost_ret (v := ptV p) (by simp [results, Try.results27, go_sem, c40, c41, ptV]) rfl ⟨?_, ?_⟩
        · rw [Hup.out, find_take Hp.out Hpn.out Hf.out]; rfl
        · exact (hB.setCell (by simp) _).setCell (by simp) _
      · have hb : (p.1 == node) = false := by simpa using hpn
        have Hpn := Lib.hid hpn; clear hpn
        go_wp2
        go_roundw
        case rel => exact ⟨k + 1, by go_num, by omega, trivial, find_take_succ Hp.out Hpn.out Hf.out⟩
        case measure => simp [intOf]; omega
    · obtain rfl : l.length = k := by omega
      go_wp2
      refine bodyPost_ret (v := ptV (0, 0)) (by simp [results, Try.results27, go_sem, c40, c41, ptV]) rfl ⟨?_, ?_⟩
      · have h := Hf.out
        rw [List.take_of_length_le (Nat.le_refl _)] at h
        rw [Hup.out, h]; rfl
      · exact (hB.setCell (by simp) _).setCell (by simp) _
end Go.Proofs.Ytadpenphiagdmaa
