/- walks -/
import Derived.Test.YtadpenphiagdmaaW5
namespace Go.Proofs.Ytadpenphiagdmaa
open Go.RowKit
set_option linter.unusedVariables false
set_option linter.unusedSimpArgs false

def okAt (N : Int) (l : List Pt) (i : Nat) : Bool := match l[i]? with
  | some p => existsB N p.1 p.2 && (l.take i).all (fun q => !portEq q.1 q.2 p.1 p.2)
  | none => true
def portsOk (N : Int) (l : List Pt) : Bool := (List.range l.length).all (okAt N l)
def diffAll (ws : List Wire) : Bool := ws.all (fun x => x.a != x.c)
def mayB (N : Int) (ws : List Wire) (hn hl : Int) : Bool :=
  decide (1 ≤ N) && decide (N ≤ 8) && decide (ws.length ≤ 32) && portsOk N ((hn, hl) :: portsOf ws) && diffAll ws && decide (((orderOf ws hn hl).length : Int) = N)

theorem may_low {N : Int} {ws : List Wire} {hn hl : Int} (h : N < 1) : mayB N ws hn hl = false := by simp [mayB]; omega
theorem may_high {N : Int} {ws : List Wire} {hn hl : Int} (h : 8 < N) : mayB N ws hn hl = false := by simp [mayB]; omega
theorem may_many {N : Int} {ws : List Wire} {hn hl : Int} (h : 32 < ws.length) : mayB N ws hn hl = false := by simp [mayB]; omega
theorem may_port {N : Int} {ws : List Wire} {hn hl : Int} {l : List Pt} (hl' : (hn, hl) :: portsOf ws = l) {i : Nat} (h : i < l.length) (ho : okAt N l i = false) : mayB N ws hn hl = false := by
  have : portsOk N l = false := by
    simp only [portsOk, List.all_eq_false]
    exact ⟨i, by simpa using h, by simpa using ho⟩
  rw [mayB, hl', this]; simp
theorem may_diff {N : Int} {ws : List Wire} {hn hl : Int} {k : Nat} {x : Wire} (hx : ws[k]? = some x) (h : x.a = x.c) : mayB N ws hn hl = false := by
  have : diffAll ws = false := by
    simp only [diffAll, List.all_eq_false]
    exact ⟨x, List.mem_of_getElem? hx, by simp [h]⟩
  rw [mayB, this]; simp
theorem portsOk_of {N : Int} {l : List Pt} (h : ∀ j, j < l.length → okAt N l j = true) : portsOk N l = true := by
  simp only [portsOk, List.all_eq_true]
  exact fun j hj => h j (by simpa using hj)
theorem portsOk_at {N : Int} {l : List Pt} (h : portsOk N l = true) : ∀ p ∈ l, existsB N p.1 p.2 = true := by
  intro p hp
  obtain ⟨i, hi, rfl⟩ := List.getElem_of_mem hp
  simp only [portsOk, List.all_eq_true] at h
  have := h i (by simpa using hi)
  simp only [okAt, List.getElem?_eq_getElem hi, Bool.and_eq_true] at this
  exact this.1
theorem net_of {N : Int} {ws : List Wire} {hn hl : Int} (h1 : 1 ≤ N) (h8 : N ≤ 8) (h : portsOk N ((hn, hl) :: portsOf ws) = true) : NetOk N ws hn := by
  have H := portsOk_at h
  have ex : ∀ a b, existsB N a b = true → 0 ≤ a ∧ a < N := fun a b hab => by simp [existsB] at hab; omega
  refine ⟨h1, h8, (ex _ _ (H (hn, hl) (by simp))).1, (ex _ _ (H (hn, hl) (by simp))).2, fun x hx => ⟨ex _ _ (H (x.a, x.b) ?_), ex _ _ (H (x.c, x.d) ?_)⟩⟩
  · simp only [portsOf, List.mem_cons, List.mem_flatMap]; exact .inr ⟨x, hx, by simp⟩
  · simp only [portsOf, List.mem_cons, List.mem_flatMap]; exact .inr ⟨x, hx, by simp⟩
theorem may_all {N : Int} {ws : List Wire} {hn hl : Int} (h1 : 1 ≤ N) (h8 : N ≤ 8) (hm : ws.length ≤ 32) (hp : portsOk N ((hn, hl) :: portsOf ws) = true) (hd : diffAll ws = true) :
    mayB N ws hn hl = decide (((orderOf ws hn hl).length : Int) = N) := by simp [mayB, h1, h8, hm, hp, hd]
theorem okAt_not {N : Int} {l : List Pt} {i : Nat} {p : Pt} (hp : l[i]? = some p) (h : existsB N p.1 p.2 = false) : okAt N l i = false := by simp [okAt, hp, h]
theorem okAt_dup {N : Int} {l : List Pt} {i k : Nat} {p q : Pt} (hp : l[i]? = some p) (hk : k < i) (hq : l[k]? = some q) (h : portEq q.1 q.2 p.1 p.2 = true) : okAt N l i = false := by
  have : (l.take i).all (fun q => !portEq q.1 q.2 p.1 p.2) = false := by
    rw [List.all_eq_false]
    refine ⟨q, List.mem_of_getElem? (i := k) ?_, by simp [h]⟩
    rw [List.getElem?_take, if_pos hk]; exact hq
  simp [okAt, hp, this]
theorem okAt_yes {N : Int} {l : List Pt} {i : Nat} {p : Pt} (hp : l[i]? = some p) (h : existsB N p.1 p.2 = true) (h2 : (l.take i).all (fun q => !portEq q.1 q.2 p.1 p.2) = true) : okAt N l i = true := by simp [okAt, hp, h, h2]
theorem all_take_succ {α : Type} {l : List α} {k : Nat} {x : α} {f : α → Bool} (hx : l[k]? = some x) (h : (l.take k).all f = true) (hf : f x = true) : (l.take (k + 1)).all f = true := by
  obtain ⟨hk, rfl⟩ := List.getElem?_eq_some_iff.1 hx
  rw [List.take_succ_eq_append_getElem hk, List.all_append, h]; simp [hf]

set_option maxRecDepth 100000 in
set_option maxHeartbeats 1000000 in
theorem rMay (N hn hl : Int) (A : Option Addr) (m c : Nat) (ws : List Wire) (w : World) (hr : Reads w w.heap.size 4 A m (wcells ws)) (hm : m ≤ 1000000) :
    Calls Try.prog 19 #[.agg #[.int .i64 N, .slice A m c, .int .i64 hn, .int .i64 hl]] w (RetV (.bool (mayB N ws hn hl)) w) := by
  have hlen : ws.length = m := by have := hr.1; rw [wcells_length] at this; omega
  have Hlen := Lib.hid hlen; clear hlen
  by_cases h1 : N < 1
  · go_enter Try.func19, Try.ntmps19
    go_wp2
    all_goals first
      | (exfalso; omega)
      | (go_ret; exact ⟨by rw [may_low h1]; rfl, (lay1 w _ _).1⟩)
  by_cases h8 : 8 < N
  · go_enter Try.func19, Try.ntmps19
    go_wp2
    all_goals first
      | (exfalso; omega)
      | (go_ret; exact ⟨by rw [may_high h8]; rfl, (lay1 w _ _).1⟩)
  by_cases h32 : 32 < m
  · go_enter Try.func19, Try.ntmps19
    go_wp2
    all_goals first
      | (exfalso; omega)
      | (go_ret; exact ⟨by rw [may_many (by rw [Hlen.out]; exact h32)]; rfl, (lay1 w _ _).1⟩)
  have hd32 : decide ((32 : Int) < (m : Int)) = false := by simp; omega
  obtain ⟨k1, k2⟩ := lay1 w #[.int .i64 N, .slice A m c, .int .i64 hn, .int .i64 hl] 26
  have hr0 := hr.up k1 (by simp <;> omega)
  have HO := Lib.hid (rports N hn hl A m c ws (w.alloc (.cells #[.int .i64 N, .slice A m c, .int .i64 hn, .int .i64 hl] 26)) hr0 hm)
  go_enter Try.func19, Try.ntmps19
  go_wp2_with (go_at_call 32; refine HO.out.mono ?_; rintro e w1 ⟨A2, c2, rfl, hr2, hb1⟩)
  have hB1 := k1.call (by simp <;> omega) hb1
  have b01 := k2.call hb1
  clear hr0 HO hd32 k2 k1
  obtain ⟨l, hl'⟩ : ∃ l, (hn, hl) :: portsOf ws = l := ⟨_, rfl⟩
  rw [hl'] at hr2
  obtain ⟨L, hL⟩ : ∃ L, 1 + m * 2 = L := ⟨_, rfl⟩
  rw [hL] at hr2 ⊢
  have hLl : l.length = L := by have := hr2.1; rw [pcells_length] at this; omega
  obtain ⟨b2, o2, rfl, hb2, _⟩ := hr2.addr (by omega) (by omega)
  have hLs : L ≤ 100 := by omega
  have Hl := Lib.hid hl'; clear hl'
  have HLl := Lib.hid hLl; clear hLl hL
  go_loopw [4] (fun i wr => ∃ k : Nat, i = .int .i64 k ∧ k ≤ L ∧ Hid (∀ j, j < k → okAt N l j = true) ∧ Below w.heap.size w wr ∧ Blk wr w.heap.size 26 #[.int .i64 N, .slice A m c, .int .i64 hn, .int .i64 hl] ∧ Reads wr wr.heap.size 2 (some ⟨b2, o2, none⟩) L (pcells l)) (fun i _ => L - (intOf i).toNat)
  case atStart => exact ⟨0, rfl, by omega, fun j hj => (Nat.not_lt_zero j hj).elim, hB1, b01, hr2⟩
  case round =>
    clear hb1 hB1 b01 hr2 hb2
    obtain ⟨k, rfl, hk, Hk, hB, b0, hr2⟩ := hrel
    have c00 := b0.cell 0
    have c01 := b0.cell 1
    simp at c00 c01
    have b0s := b0.lt
    by_cases hlt : k < L
    · obtain ⟨b2', o2', hbo, hb2, hc2⟩ := hr2.addr (by omega) (by omega)
      obtain ⟨rfl, rfl⟩ : b2 = b2' ∧ o2 = o2' := by injection hbo with h; injection h with h1 h2; exact ⟨h1, h2⟩
      clear hbo
      obtain ⟨p, hp⟩ : ∃ p, l[k]? = some p := ⟨_, List.getElem?_eq_getElem (by rw [HLl.out]; exact hlt)⟩
      obtain ⟨e1, e2⟩ := pcells_get _ _ _ hp
      have d1 := hc2 _ _ e1
      have d2 := hc2 _ _ e2
      rw [← Nat.add_assoc] at d2
      clear e1 e2
      have Hc2 := Lib.hid hc2; clear hc2
      have Hp := Lib.hid hp; clear hp
      have hki : (k : Int) < (L : Int) := by omega
      cases hex : existsB N p.1 p.2
      · have Hx := Lib.hid hex; clear hex
        go_wp2
        go_region_held3 (fun w' => wr.heap.size ≤ w'.heap.size ∧ ∀ b o, b < wr.heap.size → w'.cell? ⟨b, o, none⟩ = wr.cell? ⟨b, o, none⟩)
          (first | exact SBel.drew | exact SBel.drew.below hb1)
          ((go_at_call 33; refine (rexists N p.1 p.2 _).mono ?_; rintro e w1 ⟨rfl, hb1⟩; rw [Hx.out]))
        go_wp2
        go_ret
        refine ⟨?_, hB.trans (((Below.refl wr.heap.size wr).drew.trans hb1).mono (Nat.le_of_lt b0s))⟩
        rw [may_port Hl.out (by rw [HLl.out]; exact hlt) (okAt_not Hp.out Hx.out)]; rfl
      · have Hx := Lib.hid hex; clear hex
        go_wp2
        go_region_held3 (fun w' => wr.heap.size ≤ w'.heap.size ∧ ∀ b o, b < wr.heap.size → w'.cell? ⟨b, o, none⟩ = wr.cell? ⟨b, o, none⟩)
          (first | exact SBel.drew | exact SBel.drew.below hb1)
          ((go_at_call 33; refine (rexists N p.1 p.2 _).mono ?_; rintro e w1 ⟨rfl, hb1⟩; rw [Hx.out]))
        have hb2' : Below wr.heap.size wr w1 := (Below.refl _ wr).drew.trans hb1
        have hB' := hB.trans (hb2'.mono (by omega))
        have b0' := b0.below hb2' (by omega)
        have hr2' := (hr2.below hb2').more hb2'.size
        have Hlo := Lib.hid b0s
        clear hb1 hb2' c00 c01 d1 d2 hB b0 hr2 b0s
        go_wp2
        go_loopw [5] (fun i wx => ∃ t : Nat, i = .int .i64 t ∧ t ≤ k ∧ Hid ((l.take t).all (fun q => !portEq q.1 q.2 p.1 p.2) = true) ∧ Below w.heap.size w wx ∧ Blk wx w.heap.size 26 #[.int .i64 N, .slice A m c, .int .i64 hn, .int .i64 hl] ∧ Reads wx wx.heap.size 2 (some ⟨b2, o2, none⟩) L (pcells l)) (fun i _ => k - (intOf i).toNat)
        case atStart => exact ⟨0, rfl, by omega, rfl, hB', b0', hr2'⟩
        case round =>
          clear hB' b0' hr2'
          obtain ⟨t, rfl, ht, Ht, hB', b0', hr2'⟩ := hrel
          by_cases htk : t < k
          · obtain ⟨b2', o2', hbo, hb3, hc3⟩ := hr2'.addr (by omega) (by omega)
            obtain ⟨rfl, rfl⟩ : b2 = b2' ∧ o2 = o2' := by injection hbo with h; injection h with h1 h2; exact ⟨h1, h2⟩
            clear hbo
            obtain ⟨q, hq⟩ : ∃ q, l[t]? = some q := ⟨_, List.getElem?_eq_getElem (by rw [HLl.out]; omega)⟩
            obtain ⟨e1, e2⟩ := pcells_get _ _ _ hq
            obtain ⟨e3, e4⟩ := pcells_get _ _ _ Hp.out
            have d1 := hc3 _ _ e1
            have d2 := hc3 _ _ e2
            have d3 := hc3 _ _ e3
            have d4 := hc3 _ _ e4
            rw [← Nat.add_assoc] at d2 d4
            clear hc3 e1 e2 e3 e4
            have Hq := Lib.hid hq; clear hq
            have htI : (t : Int) < (L : Int) := by omega
            cases he : portEq q.1 q.2 p.1 p.2
            · have He := Lib.hid he
              go_wp2
              go_quiet (fail)
              go_wp2
              go_roundw
              case rel => exact ⟨t + 1, by go_num, by omega, all_take_succ Hq.out Ht.out (by simp [He.out]), hB'.drewN' _, b0'.drewN _, hr2'.drewN _⟩
              case measure => simp [intOf]; omega
            · have He := Lib.hid he
              go_wp2
              go_quiet (fail)
              go_wp2
              go_ret
              refine ⟨?_, hB'.drewN' _⟩
              rw [may_port Hl.out (by rw [HLl.out]; exact hlt) (okAt_dup Hp.out htk Hq.out He.out)]; rfl
          · obtain rfl : k = t := by omega
            go_wp2
            go_roundw
            case rel =>
              refine ⟨k + 1, by go_num, by omega, fun j hj => ?_, hB', b0', hr2'⟩
              rcases Nat.lt_or_ge j k with hjk | hjk
              · exact Hk.out j hjk
              · obtain rfl : k = j := by omega
                exact okAt_yes Hp.out Hx.out Ht.out
            case measure => simp [intOf]; omega
    · obtain rfl : L = k := by omega
      have hpo : portsOk N l = true := portsOk_of (fun j hj => Hk.out j (by rw [← HLl.out]; exact hj))
      rw [← Hl.out] at hpo
      have hnet : NetOk N ws hn := net_of (by omega) (by omega) hpo
      have Hpo := Lib.hid hpo; clear hpo
      have Hnet := Lib.hid hnet; clear hnet
      clear hr2
      go_wp2
      go_loopw [6] (fun i wx => ∃ t : Nat, i = .int .i64 t ∧ t ≤ m ∧ Hid ((ws.take t).all (fun x => x.a != x.c) = true) ∧ ∃ n, wx = wr.drewN n) (fun i _ => m - (intOf i).toNat)
      case atStart => exact ⟨0, rfl, by omega, rfl, 0, rfl⟩
      case round =>
        obtain ⟨t, rfl, ht, Ht, n, rfl⟩ := hrel
        by_cases htm : t < m
        · obtain ⟨bk, off, rfl, hb, hc⟩ := (hr.below hB).addr (by omega) (by omega)
          obtain ⟨x, hx⟩ : ∃ x, ws[t]? = some x := ⟨_, List.getElem?_eq_getElem (by rw [Hlen.out]; exact htm)⟩
          have d0 := hc _ _ (wcells_get ws t x hx 0 _ rfl)
          have d2 := hc _ _ (wcells_get ws t x hx 2 _ rfl)
          have Hx := Lib.hid hx; clear hx
          clear hc
          simp only [Nat.add_zero, ← Nat.add_assoc] at d0 d2
          have htI : (t : Int) < (m : Int) := by omega
          cases he : (x.a == x.c)
          · have He := Lib.hid he
            go_wp2
            go_quiet (fail)
            go_wp2
            go_roundw
            case rel => exact ⟨t + 1, by go_num, by omega, all_take_succ Hx.out Ht.out (by have := He.out; simp at this; simpa using this), _, rfl⟩
            case measure => simp [intOf]; omega
          · have He := Lib.hid he
            go_wp2
            go_quiet (fail)
            go_wp2
            go_ret
            refine ⟨?_, (hB.drewN' _).drewN' _⟩
            rw [may_diff Hx.out (by have := He.out; simpa using this)]; rfl
        · obtain rfl : m = t := by omega
          have hB' := hB.drewN' n
          have b0' := b0.drewN n
          have hr0 := hr.up hB' (by simp <;> omega)
          have b0s' := b0'.lt
          clear c00 c01 b0 hB b0s
          generalize wr.drewN n = wq at *
          have c00 := b0'.cell 0
          have c01 := b0'.cell 1
          have c02 := b0'.cell 2
          have c03 := b0'.cell 3
          simp at c00 c01 c02 c03
          go_wp2
          go_region_held3 (fun w' => wq.heap.size ≤ w'.heap.size ∧ ∀ b o, b < wq.heap.size → w'.cell? ⟨b, o, none⟩ = wq.cell? ⟨b, o, none⟩)
            (first | exact SBel.drew | exact SBel.drew.below hb1)
            ((go_at_call 34; refine (rOrder N hn hl A m c ws _ (by exact hr0) hm Hnet.out).mono ?_; rintro e w1 ⟨A3, c3, rfl, hr3, hb1⟩))
          go_wp2
          go_ret
          refine ⟨?_, hB'.trans (((Below.refl wq.heap.size wq).drew.trans hb1).mono (Nat.le_of_lt b0s'))⟩
          have hd : diffAll ws = true := by
            have := Ht.out
            rwa [List.take_of_length_le (by rw [Hlen.out]; omega)] at this
          rw [may_all (by omega) (by omega) (by rw [Hlen.out]; omega) Hpo.out hd]
          show Ending.returned (.bool _) = _
          congr 2
end Go.Proofs.Ytadpenphiagdmaa
