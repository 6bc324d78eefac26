/- The program's Children. -/
import Derived.Test.YtadpenphiagdmaaR5
namespace Go.Proofs.Ytadpenphiagdmaa
open Go.RowKit
set_option linter.unusedVariables false
set_option linter.unusedSimpArgs false

def tchildB (ws : List Wire) (T : List Int) (hn node : Int) (k : Nat) : Bool := match peerL ws node k with
  | some q => q.1 != hn && q.2 == T.getD q.1.toNat 0
  | none => false
def tchildren (ws : List Wire) (T : List Int) (hn node : Int) (n : Nat) : List Int := ((List.range n).filter (tchildB ws T hn node)).map (fun k : Nat => (k : Int))
def tChildrenR (N : Int) (ws : List Wire) (hn hl node : Int) : List Int × Int :=
  if mayB N ws hn hl then (if node < 0 ∨ N ≤ node then ([], 4) else (tchildren ws (tints N (orderOf ws hn hl)) hn node 4, 0)) else ([], 2)
theorem tchildren_yes {ws : List Wire} {T : List Int} {hn node : Int} {n : Nat} (h : tchildB ws T hn node n = true) : tchildren ws T hn node (n + 1) = tchildren ws T hn node n ++ [(n : Int)] := by
  simp [tchildren, List.range_succ, h]
theorem tchildren_no {ws : List Wire} {T : List Int} {hn node : Int} {n : Nat} (h : tchildB ws T hn node n = false) : tchildren ws T hn node (n + 1) = tchildren ws T hn node n := by
  simp [tchildren, List.range_succ, h]

/-- A slice of ints of the call's own and an error number. -/
def RetSF (xs : List Int) (k : Int) (w : World) (e : Ending) (w' : World) : Prop :=
  ∃ A c, e = .returned (.tuple #[.slice A xs.length c, .int .i64 k]) ∧ w'.ownsRow w.heap.size 3 1 (.slice A xs.length c) xs.length (icells xs) ∧ Below w.heap.size w w'
theorem RetSF.of_own {w w' : World} {base n : Nat} {v : Value} {xs : List Int} {k : Int} (h : w'.ownsRow base 3 1 v n (icells xs)) (hB : Below w.heap.size w w') (hb : w.heap.size ≤ base) : RetSF xs k w (.returned (.tuple #[v, .int .i64 k])) w' := by
  have hn : xs.length = n := by have := h.1; rw [icells_length] at this; omega
  subst hn
  have h' : w'.ownsRow w.heap.size 3 1 v xs.length (icells xs) := by
    refine ⟨h.1, ?_⟩
    rcases h.2 with h2 | ⟨g, cap, cur, e1, hb', rest⟩
    · exact .inl h2
    · exact .inr ⟨g, cap, cur, e1, by omega, rest⟩
  rcases h.2 with ⟨rfl, h0⟩ | ⟨g, cap, cur, rfl, _⟩
  · have e : (Value.slice none xs.length 0) = Value.slice none 0 0 := by rw [h0]
    exact ⟨none, 0, by rw [e], by rw [e]; exact h', hB⟩
  · exact ⟨_, _, rfl, h', hB⟩
theorem RetSF.nil {w w' : World} {k : Int} (hB : Below w.heap.size w w') : RetSF [] k w (.returned (.tuple #[.slice none 0 0, .int .i64 k])) w' :=
  ⟨none, 0, rfl, World.ownsRow_nil _ _ _ _, hB⟩
theorem RetSF.se {xs : List Int} {k : Int} {w w' : World} {e : Ending} (h : RetSF xs k w e w') : RetSE xs k w e w' := by
  obtain ⟨A, c, h1, h2, h3⟩ := h
  exact ⟨A, c, h1, Reads.of_own h2, h3⟩
set_option maxRecDepth 100000 in
set_option maxHeartbeats 1000000 in
theorem tChildrenF (N hn hl : Int) (A : Option Addr) (m c : Nat) (ws : List Wire) (node : Int) (w : World) (hr : Reads w w.heap.size 4 A m (wcells ws)) (hm : m ≤ 1000000) :
    Calls Try.prog 13 #[.agg #[.int .i64 N, .slice A m c, .int .i64 hn, .int .i64 hl], .int .i64 node] w (RetSF (tChildrenR N ws hn hl node).1 (tChildrenR N ws hn hl node).2 w) := by
  obtain ⟨i0, hi0, hz0, hz1, hz2⟩ := info_parts int_info
  obtain ⟨k1, k2⟩ := lay1 w #[.int .i64 N, .slice A m c, .int .i64 hn, .int .i64 hl] 26
  have hr0 := hr.up k1 (by simp <;> omega)
  have HI := Lib.hid (fun w (hr : Reads w w.heap.size 4 A m (wcells ws)) => tinside N hn hl A m c ws w hr hm node)
  cases hmay : mayB N ws hn hl
  · have e : tChildrenR N ws hn hl node = ([], 2) := by simp [tChildrenR, hmay]
    rw [e]
    have HJ := Lib.hid (tvalid_no N hn hl A m c ws (w.alloc (.cells #[.int .i64 N, .slice A m c, .int .i64 hn, .int .i64 hl] 26)) hr0 hm hmay)
    clear hmay e
    go_enter Try.func13, Try.ntmps13
    go_wp2_with (go_at_call 26; refine HJ.out.mono ?_; rintro e w1 ⟨hb1, p, s, rfl⟩)
    go_ret2
    exact RetSF.nil (k1.call (by simp <;> omega) hb1)
  have HJ := Lib.hid (tvalid_yes N hn hl A m c ws (w.alloc (.cells #[.int .i64 N, .slice A m c, .int .i64 hn, .int .i64 hl] 26)) hr0 hm hmay)
  have Hnet := Lib.hid (mayB_net hmay)
  cases hin : (decide (0 ≤ node) && decide (node < N))
  · have e : tChildrenR N ws hn hl node = ([], 4) := by
      have : node < 0 ∨ N ≤ node := by simp at hin; omega
      simp [tChildrenR, hmay, this]
    rw [e]
    have Hin := Lib.hid hin
    clear hmay e hin
    go_enter Try.func13, Try.ntmps13
    go_wp2_with (first
      | (go_at_call 26; refine HJ.out.mono ?_; rintro e w1 ⟨hb1, g, r, b, rfl, bg, hM, bt, hgl, hbl⟩
         have b0 := k2.call hb1
         have hB := k1.call (by simp <;> omega) hb1
         have hr1 := hr0.call hb1
         have c00 := b0.cell 0
         have c01 := b0.cell 1
         have c02 := b0.cell 2
         have c03 := b0.cell 3
         simp at c00 c01 c02 c03)
      | (go_at_call 28; refine (HI.out _ hr1).mono ?_; rintro e w2 ⟨rfl, hb2⟩; rw [Hin.out]))
    go_ret2
    exact RetSF.nil (hB.call hB.size hb2)
  have hn0 : 0 ≤ node ∧ node < N := by simp at hin; exact hin
  have e : tChildrenR N ws hn hl node = (tchildren ws (tints N (orderOf ws hn hl)) hn node 4, 0) := by simp only [tChildrenR, hmay, if_true]; rw [if_neg (by omega)]
  rw [e]
  have Hin := Lib.hid hin
  clear hmay e hin
  go_enter Try.func13, Try.ntmps13
  go_wp2_with (first
      | (go_at_call 26; refine HJ.out.mono ?_; rintro e w1 ⟨hb1, g, r, b, rfl, bg, hM, bt, hgl, hbl⟩
         have b0 := k2.call hb1
         have hB := k1.call (by simp <;> omega) hb1
         have hr1 := hr0.call hb1
         have c00 := b0.cell 0
         have c01 := b0.cell 1
         have c02 := b0.cell 2
         have c03 := b0.cell 3
         simp at c00 c01 c02 c03)
      | (go_at_call 28; refine (HI.out _ hr1).mono ?_; rintro e w2 ⟨rfl, hb2⟩; rw [Hin.out]))
  have b0' := b0.call hb2
  have hB' := hB.call hB.size hb2
  have bg' := bg.call hb2
  have hM' := hM.call hb2
  have bt' := bt.call hb2
  clear b0 hB bg hM bt hr1 c00 c01 c02 c03 hb1 hb2 hr0 k1 k2
  have ltT := tints_length N (orderOf ws hn hl)
  have htT := tints_arr N (orderOf ws hn hl)
  generalize tints N (orderOf ws hn hl) = T at *
  generalize tarr N (orderOf ws hn hl) = Ta at *
  go_loopw [9, 27] (fun v i wr => ∃ (k : Nat) (xs : List Int), i = .int .i64 k ∧ k ≤ 4 ∧ Hid (tchildren ws T hn node k = xs) ∧ wr.ownsRow w2.heap.size 3 1 v xs.length (icells xs) ∧ Below w2.heap.size w2 wr) (fun _ i _ => 4 - (intOf i).toNat)
  case atStart => exact ⟨0, [], rfl, by omega, rfl, World.ownsRow_nil _ _ _ _, Below.refl _ _⟩
  case round =>
    obtain ⟨k, xs, rfl, hk, Hxs, hown, kB⟩ := hrel
    have b0 := b0'.call kB
    have bg := bg'.call kB
    have hM := hM'.call kB
    have bt := bt'.call kB
    have c00 := b0.cell 0
    have c02 := b0.cell 2
    have g4 := bg.cell 4
    simp [gcells] at c00 c02 g4
    by_cases hlt : k < 4
    · obtain ⟨q, hq⟩ : ∃ q, peerL ws node k = q := ⟨_, rfl⟩
      obtain ⟨q1, q2, hq12⟩ : ∃ q1 q2, q.getD (0, 0) = (q1, q2) := ⟨_, _, rfl⟩
      have hlk := look_run hM hq hq12
      have Hq := Lib.hid hq; clear hq
      have Hq12 := Lib.hid hq12; clear hq12
      obtain ⟨si, hsi⟩ : ∃ si, q.isSome = si := ⟨_, rfl⟩
      rw [hsi] at hlk
      have Hsi := Lib.hid hsi; clear hsi
      go_upto_region 11 with (fail)
      have k6 : Below wr.heap.size wr (wr.alloc (.cells #[.int .i64 q1, .int .i64 q2] 24)) := (Below.refl _ _).alloc (Nat.le_refl _) _
      have b6 := Blk.new wr 24 #[.int .i64 q1, .int .i64 q2]
      have b0a := b0.call k6
      have bta := bt.call k6
      have hownA := hown.below k6
      have kA := kB.call kB.size k6
      have hxl : xs.length ≤ 1000 := by
        rw [← Hxs.out, tchildren, List.length_map]
        have h1 := List.length_filter_le (tchildB ws T hn node) (List.range k)
        rw [List.length_range] at h1
        omega
      clear b0 bg hM bt hown kB c00 c02 g4 hlk k6
      generalize hge : wr.heap.size = ge at *
      clear hge
      generalize wr.alloc (.cells #[.int .i64 q1, .int .i64 q2] 24) = V at *
      have c00 := b0a.cell 0
      have c02 := b0a.cell 2
      have c60 := b6.cell 0
      have c61 := b6.cell 1
      simp at c00 c02 c60 c61
      rcases q with _ | ⟨a1, a2⟩
      · obtain rfl : false = si := Hsi.out
        have hch : tchildB ws T hn node k = false := by simp [tchildB, Hq.out]
        have Hch := Lib.hid hch; clear hch
        go_quiet (fail)
        go_wp2
        go_roundw
        case rel => exact ⟨k + 1, xs, by go_num, by omega, (tchildren_no Hch.out).trans Hxs.out, hownA.drewN _, kA.drewN' _⟩
        case measure => simp [intOf]; omega
      · obtain rfl : true = si := Hsi.out
        obtain ⟨rfl, rfl⟩ : a1 = q1 ∧ a2 = q2 := by have h := Hq12.out; simp at h; exact h
        have hq0 := peerL_ok Hnet.out Hq.out
        simp only at hq0
        obtain ⟨hqa, hqb⟩ := hq0
        by_cases hqh : a1 = hn
        · have hch : tchildB ws T hn node k = false := by simp [tchildB, Hq.out, hqh]
          have Hch := Lib.hid hch; clear hch
          have hd : (a1 != hn) = false := by simpa using hqh
          have Hqh := Lib.hid hqh; clear hqh
          go_quiet (fail)
          go_wp2
          go_roundw
          case rel => exact ⟨k + 1, xs, by go_num, by omega, (tchildren_no Hch.out).trans Hxs.out, hownA.drewN _, kA.drewN' _⟩
          case measure => simp [intOf]; omega
        · have hd : (a1 != hn) = true := by simpa using hqh
          obtain ⟨y, hy⟩ : ∃ y, T.getD a1.toNat 0 = y := ⟨_, rfl⟩
          have hx : a1.toNat < T.length := by omega
          have cT : V.cell? ⟨b, a1.toNat, none⟩ = some (.int .i64 y) := by
            have e : T[a1.toNat]? = some y := by rw [List.getElem?_eq_getElem hx, ← hy, List.getD_eq_getElem?_getD, List.getElem?_eq_getElem hx]; rfl
            rw [bta.cell, ← Array.getElem?_toList, htT, icells, List.getElem?_map, e]; rfl
          have hxI : a1 < ((N.toNat : Nat) : Int) := by omega
          have hxm : a1 < max N 0 := by omega
          cases he : (a2 == y)
          · have hch : tchildB ws T hn node k = false := by simp only [tchildB, Hq.out, hy, he, Bool.and_false]
            have Hch := Lib.hid hch; clear hch
            have Hqh := Lib.hid hqh; clear hqh
            go_quiet (fail)
            go_wp2
            go_roundw
            case rel => exact ⟨k + 1, xs, by go_num, by omega, (tchildren_no Hch.out).trans Hxs.out, hownA.drewN _, kA.drewN' _⟩
            case measure => simp [intOf]; omega
          · have hch : tchildB ws T hn node k = true := by simp only [tchildB, Hq.out, hy, he, hd, Bool.and_self]
            have Hch := Lib.hid hch; clear hch
            have Hqh := Lib.hid hqh; clear hqh
            go_quiet (fail)
            have hownD := hownA.drewN nq
            have kD := kA.drewN' nq
            generalize V.drewN nq = VD at *
            go_wp2_with (at_builtin; refine app_own Try.underlying28 hi0 hz0 hz1 hz2 rfl (by decide) (hownD.alloc _) (by have := kD.size; simp; omega) rfl (.tmp 60) (.tmp 62) rfl rfl VD.heap.size 1 1 #[.int .i64 (k : Int)] rfl (Blk.new VD _ _) rfl (by simp [Value.oneCell']) (by omega) (by omega) ?_; intro v' w' hown5 _ hB5 _)
            go_roundw
            case rel =>
              refine ⟨k + 1, xs ++ [(k : Int)], by go_num, by omega, by show _ = _; rw [tchildren_yes Hch.out, Hxs.out], ?_, (kD.alloc kD.size _).trans hB5⟩
              rw [List.length_append, icells, List.map_append]; exact hown5
            case measure => simp [intOf]; omega
    · obtain rfl : 4 = k := by omega
      go_wp2
      go_ret2
      rw [Hxs.out]
      exact RetSF.of_own hown (hB'.call hB'.size kB) hB'.size
theorem tChildren (N hn hl : Int) (A : Option Addr) (m c : Nat) (ws : List Wire) (node : Int) (w : World) (hr : Reads w w.heap.size 4 A m (wcells ws)) (hm : m ≤ 1000000) :
    Calls Try.prog 13 #[.agg #[.int .i64 N, .slice A m c, .int .i64 hn, .int .i64 hl], .int .i64 node] w (RetSE (tChildrenR N ws hn hl node).1 (tChildrenR N ws hn hl node).2 w) :=
  (tChildrenF N hn hl A m c ws node w hr hm).mono fun _ _ h => h.se
end Go.Proofs.Ytadpenphiagdmaa
