/- Texts that belong together, joined: what each one holds is told ahead of it. -/
import Derived.Test.YtbefmlioampgcaaGreatDoorHZ3
import Derived.Test.YtbefmlioampgcaaGreatDoorHK39
import Derived.Test.YtbefmlioampgcaaGreatDoorHK36
set_option linter.unusedVariables false
set_option linter.unusedSimpArgs false
/- The document's value of an expression, walked. -/
namespace Go.Proofs.YtbefmlioampgcaaGreatDoor
open Go.RowKit
set_option linter.unusedVariables false
set_option linter.unusedSimpArgs false

theorem atV_32 {ss : List RwL} (hst : ∀ r ∈ ss, ∀ v ∈ r.l, is32 v) {v i w : Int} (h : atV ss v i = some w) : is32 w := by
  unfold atV at h
  split at h
  · cases h
  · rename_i hc
    simp only [not_or] at hc
    obtain rfl := Option.some.inj h
    obtain ⟨k, rfl⟩ : ∃ k : Nat, v = k := ⟨v.toNat, by omega⟩
    obtain ⟨j, rfl⟩ : ∃ j : Nat, i = j := ⟨i.toNat, by omega⟩
    simp only [Int.toNat_natCast] at hc ⊢
    have hk : k < ss.length := by omega
    have hr : ss.getD k default = ss[k] := by rw [List.getD_eq_getElem?_getD, List.getElem?_eq_getElem hk]; rfl
    rw [hr] at hc ⊢
    have hj : j < (ss[k]).l.length := by omega
    rw [List.getD_eq_getElem?_getD, List.getElem?_eq_getElem hj, Option.getD_some]
    exact hst _ (List.getElem_mem hk) _ (List.getElem_mem hj)
theorem someO_32 {p : Int × Bool} (hp : is32 p.1) {w : Int} (h : someO p = some w) : is32 w := by
  unfold someO at h
  split at h
  · cases h
  · obtain rfl := Option.some.inj h; exact hp
theorem apply_32 {o : Nat} {a b : Int} (ha : is32 a) (hb : is32 b) {w : Int} (h : applyO o a b = some w) : is32 w := by
  have hw : ∀ z, is32 (wrap32 z) := fun z => by unfold is32 wrap32; omega
  have hif : ∀ (b1 b2 : Bool), (if b1 then some (truthL b2) else none) = some w → is32 w := fun b1 b2 h => by
    cases b1 with
    | false => cases h
    | true => obtain rfl := Option.some.inj h; exact truthL_is _
  by_cases h0 : o = 0
  · subst h0
    exact absurd (show (none : Option Int) = some w from h) (by simp)
  by_cases h13 : o ≤ 13
  · have h2 : (binO (singleO o) a b).bind someO = some w := by
      rw [← h]
      unfold applyO
      rw [if_neg h0, if_pos h13]
    cases hb2 : binO (singleO o) a b with
    | none => rw [hb2] at h2; cases h2
    | some p => rw [hb2] at h2; exact someO_32 (binO_is ha hb hb2) h2
  by_cases h27 : 27 ≤ o
  · have h2 : applyO o a b = none := by
      unfold applyO
      rw [if_neg h0, if_neg h13, if_neg (by omega), if_neg (by omega), if_neg (by omega), if_neg (by omega), if_neg (by omega), if_neg (by omega), if_neg (by omega), if_neg (by omega), if_neg (by omega), if_neg (by omega), if_neg (by omega), if_neg (by omega), if_neg (by omega)]
    rw [h2] at h
    cases h
  have hoc : o = 14 ∨ o = 15 ∨ o = 16 ∨ o = 17 ∨ o = 18 ∨ o = 19 ∨ o = 20 ∨ o = 21 ∨ o = 22 ∨ o = 23 ∨ o = 24 ∨ o = 25 ∨ o = 26 := by omega
  rcases hoc with rfl | rfl | rfl | rfl | rfl | rfl | rfl | rfl | rfl | rfl | rfl | rfl | rfl
  · obtain rfl := Option.some.inj (show some (truthL (a == b)) = some w from h); exact truthL_is _
  · obtain rfl := Option.some.inj (show some (truthL (a != b)) = some w from h); exact truthL_is _
  · obtain rfl := Option.some.inj (show some (truthL (decide (a < b))) = some w from h); exact truthL_is _
  · obtain rfl := Option.some.inj (show some (truthL (decide (b < a))) = some w from h); exact truthL_is _
  · obtain rfl := Option.some.inj (show some (truthL (decide (a ≤ b))) = some w from h); exact truthL_is _
  · obtain rfl := Option.some.inj (show some (truthL (decide (b ≤ a))) = some w from h); exact truthL_is _
  · exact hif _ _ (show (if bit01 a && bit01 b then some (truthL (a == 1 && b == 1)) else none) = some w from h)
  · exact hif _ _ (show (if bit01 a && bit01 b then some (truthL (a == 1 || b == 1)) else none) = some w from h)
  · obtain rfl := Option.some.inj (show some (truthL (decide (0 < wrap32 (a - b)))) = some w from h); exact truthL_is _
  · exact someO_32 (p := (wrap32 (0 - a), wrap32 (0 - a) != 0 - a)) (hw _) (show someO (wrap32 (0 - a), wrap32 (0 - a) != 0 - a) = some w from h)
  · obtain rfl := Option.some.inj (show some (wrap32 (0 - a)) = some w from h); exact hw _
  · obtain rfl := Option.some.inj (show some (-1 - a) = some w from h); unfold is32 at ha ⊢; omega
  · exact hif _ _ (show (if bit01 a then some (truthL (a == 0)) else none) = some w from h)
theorem conv_32 {t : Nat} {v w : Int} (hv : is32 v) (h : convO t v = some w) : is32 w := by
  unfold convO at h
  split at h
  · obtain rfl := Option.some.inj h; exact hv
  · cases h
theorem value_32 {ss : List RwL} (hst : ∀ r ∈ ss, ∀ v ∈ r.l, is32 v) (e : KE) : e.all (fun x => is32 x.n) → ∀ {w : Int}, valueE ss e = some w → is32 w := by
  induction e using KE.ind with
  | h e ih =>
    intro hall w hw
    obtain ⟨h32, hpa⟩ := KE.all_iff.1 hall
    match hl : e.l with
    | [] =>
      rw [valueE_0 hl] at hw
      split at hw
      · obtain rfl := Option.some.inj hw; exact h32
      · split at hw
        · exact atV_32 hst hw
        · cases hw
    | [a] =>
      have ma : a ∈ e.l := by rw [hl]; simp
      rw [valueE_1 hl] at hw
      cases hva : valueE ss a with
      | none => rw [hva] at hw; cases hw
      | some x =>
        rw [hva] at hw
        have hx := ih a ma (hpa a ma) hva
        simp only [oneV] at hw
        split at hw
        · exact atV_32 hst hw
        · split at hw
          · exact apply_32 hx is32_0 hw
          · split at hw
            · exact conv_32 hx hw
            · cases hw
    | a :: b :: r =>
      have ma : a ∈ e.l := by rw [hl]; simp
      have mb : b ∈ e.l := by rw [hl]; simp
      rw [valueE_2 hl] at hw
      cases hva : valueE ss a with
      | none => rw [hva] at hw; cases hw
      | some x =>
        rw [hva] at hw
        simp only at hw
        split at hw
        · obtain rfl := Option.some.inj hw; exact ih a ma (hpa a ma) hva
        · cases hvb : valueE ss b with
          | none => rw [hvb] at hw; cases hw
          | some y => rw [hvb] at hw; exact apply_32 (ih a ma (hpa a ma) hva) (ih b mb (hpa b mb) hvb) hw
set_option maxRecDepth 100000 in
set_option maxHeartbeats 4000000 in
theorem rAt17 (ss : List RwL) (As : Option Addr) (cs : Nat) (v i : Int) (B : Nat) (w : World) (hs : rwsIn w B As ss) (hB : B ≤ w.heap.size) :
    Calls Tryz.prog 50 #[.slice As ss.length cs, .int .i64 v, .int .i64 i] w (RetV (wmO (atV ss v i)) w) := by
  have hsl := hs.1
  unfold lenOk at hsl
  obtain ⟨R, hR⟩ : ∃ R, atV ss v i = R := ⟨_, rfl⟩
  rw [hR]
  by_cases h1 : v < 0
  · obtain rfl : R = none := by rw [← hR]; unfold atV; rw [if_pos (.inl h1)]
    clear hR
    go_enter Tryz.func50, Tryz.ntmps50
    go_wp2
    go_ret2
    exact ⟨rfl, Below.refl _ _⟩
  by_cases h2 : (ss.length : Int) ≤ v
  · obtain rfl : R = none := by rw [← hR]; unfold atV; rw [if_pos (.inr (.inl h2))]
    clear hR
    go_enter Tryz.func50, Tryz.ntmps50
    go_wp2
    go_ret2
    exact ⟨rfl, Below.refl _ _⟩
  by_cases h3 : i < 0
  · obtain rfl : R = none := by rw [← hR]; unfold atV; rw [if_pos (.inr (.inr (.inl h3)))]
    clear hR
    go_enter Tryz.func50, Tryz.ntmps50
    go_wp2
    go_ret2
    exact ⟨rfl, Below.refl _ _⟩
  obtain ⟨k, rfl⟩ : ∃ k : Nat, v = k := ⟨v.toNat, by omega⟩
  have hk : k < ss.length := by omega
  obtain ⟨bs, os, r, rfl, hbs, hr, hri, sc⟩ := rws_at hs hk
  rw [atV_of hr] at hR
  have hbs0 : bs < w.heap.size := Nat.lt_of_lt_of_le hbs hB
  have hkI : (k : Int) < ss.length := by omega
  have hrl := hri.1
  unfold lenOk at hrl
  by_cases h4 : (r.l.length : Int) ≤ i
  · obtain rfl : R = none := by rw [← hR, if_pos (.inr h4)]
    clear hR hri hr
    go_enter Tryz.func50, Tryz.ntmps50
    go_wp2
    go_ret2
    exact ⟨rfl, Below.refl _ _⟩
  obtain ⟨j, rfl⟩ : ∃ k : Nat, i = k := ⟨i.toNat, by omega⟩
  have hj : j < r.l.length := by omega
  have hjI : (j : Int) < r.l.length := by omega
  obtain ⟨br, or, x, hAr, hbr, hx, -, cx⟩ := rw_at hri hj
  obtain rfl : R = some x := by
    rw [← hR, if_neg (by omega), Int.toNat_natCast, List.getD_eq_getElem?_getD, hx]
    rfl
  have hbr0 : br < w.heap.size := Nat.lt_of_lt_of_le hbr hB
  rw [hAr] at sc
  clear hR hri hr hx hAr
  go_enter Tryz.func50, Tryz.ntmps50
  go_wp2
  go_ret2
  exact ⟨rfl, Below.refl _ _⟩
end Go.Proofs.YtbefmlioampgcaaGreatDoor

/- The document's value of an expression, walked: the recursion. -/
namespace Go.Proofs.YtbefmlioampgcaaGreatDoor
open Go.RowKit
set_option linter.unusedVariables false
set_option linter.unusedSimpArgs false

set_option maxRecDepth 100000 in
set_option maxHeartbeats 8000000 in
theorem rValue17 (ss : List RwL) (As : Option Addr) (cs : Nat) (e : KE) : e.all (fun x => fieldsB x = true) → e.all (fun x => is32 x.n) → ∀ (B : Nat) (w : World), e.In w B → rwsIn w B As ss → B ≤ w.heap.size →
    Calls Tryz.prog 28 #[.slice As ss.length cs, .agg e.cells] w (RetV (wmO (valueE ss e)) w) := by
  induction e using KE.ind with
  | h e ih =>
    intro hall h32 B w hin hsi hB
    have hf := (KE.all_iff.1 hall).1
    have hpa := (KE.all_iff.1 hall).2
    have h32e := (KE.all_iff.1 h32).1
    have h32p := (KE.all_iff.1 h32).2
    have hk := fieldsB_kind hf
    have hst : ∀ r ∈ ss, ∀ v ∈ r.l, is32 v := fun r hr => (hsi.2.2 r hr).2.2
    have hlen2 := (fieldsB_len hf).1
    obtain ⟨W0, hW0⟩ : ∃ W, w.alloc (.cells e.cells 27) = W := ⟨_, rfl⟩
    have K0 : Below w.heap.size w W0 := by rw [← hW0]; exact (Below.refl _ _).alloc (Nat.le_refl _) _
    have b0 : Blk W0 w.heap.size 27 e.cells := by rw [← hW0]; exact Blk.new _ _ _
    have HK0 := Lib.hid K0
    have HB0 := Lib.hid b0
    have hkes := hin.parts
    have hsl := hsi.1
    unfold lenOk at hsl
    have HC : ∀ x ∈ e.l, Hid (∀ W, Below w.heap.size w W → Calls Tryz.prog 28 #[.slice As ss.length cs, .agg x.cells] W (RetV (wmO (valueE ss x)) W)) := fun x hx => Lib.hid fun W hb =>
      ih x hx (hpa x hx) (h32p x hx) B W ((hin.part hx).below (hb.mono hB)) (hsi.below (hb.mono hB)) (Nat.le_trans hB hb.size)
    have HAT : Hid (∀ (i : Int) W, Below w.heap.size w W → Calls Tryz.prog 50 #[.slice As ss.length cs, .int .i64 e.v, .int .i64 i] W (RetV (wmO (atV ss e.v i)) W)) := Lib.hid fun i W hb =>
      rAt17 ss As cs e.v i B W (hsi.below (hb.mono hB)) (Nat.le_trans hB hb.size)
    simp only [KE.cells] at b0 hW0 HB0 ⊢
    clear ih hall
    match hl : e.l with
    | [] =>
      rw [hl] at hk
      simp at hk
      rw [valueE_0 hl]
      rw [hl] at b0 hW0 HB0
      simp only [List.length_nil] at b0 hW0 HB0 ⊢
      have c0 := b0.cell 0
      have c1 := b0.cell 1
      have c2 := b0.cell 2
      have c3 := b0.cell 3
      have c4 := b0.cell 4
      have c5 := b0.cell 5
      simp at c0 c1 c2 c3 c4 c5
      have hlt := b0.lt
      obtain ⟨K, hK⟩ : ∃ K : Int, (e.kind : Int) = K := ⟨_, rfl⟩
      rw [hK] at hW0 HB0 c0 ⊢
      rcases hk with hk | hk
      · rw [if_pos hk]
        obtain rfl : K = 1 := by omega
        clear b0 K0 hf hkes HC hl hin hk hK hsi hpa h32 h32p h32e HAT
        go_enter Tryz.func28, Tryz.ntmps28
        go_wp2
        go_ret2
        exact ⟨rfl, HK0.out⟩
      · rw [if_neg (by omega), if_pos hk]
        obtain rfl : K = 2 := by omega
        have HA0 := Lib.hid (HAT.out 0)
        unfold wmO at HA0
        clear b0 K0 hf hkes HC hl hin hk hK hsi hpa h32 h32p h32e HAT
        go_enter Tryz.func28, Tryz.ntmps28
        go_wp2_with first
          | (go_at_call 50; (with_reducible refine (HA0.out _ HK0.out).mono ?_); rintro e1 w1 ⟨rfl, hb1⟩)
        go_ret2
        exact ⟨rfl, HK0.out.trans (hb1.mono HK0.out.size)⟩
    | [a] =>
      have ma : a ∈ e.l := by rw [hl]; simp
      rw [hl] at hk
      simp at hk
      rw [valueE_1 hl]
      rw [hl] at b0 hW0 HB0 hkes
      have HA1 := HC a ma
      have hx32 := fun x (h : valueE ss a = some x) => value_32 hst a (h32p a ma) h
      simp only [List.length_cons, List.length_nil, Nat.zero_add] at b0 hW0 HB0 ⊢
      obtain ⟨q, off, hA, hq, hcell⟩ := one_at hkes
      have hqw : q < w.heap.size := Nat.lt_of_lt_of_le hq hB
      obtain ⟨x0, x1, x2, x3, x4, x5⟩ := hcell W0 (K0.mono hB)
      simp only [KE.cells] at HA1
      rw [hA] at b0 hW0 HB0 ⊢
      have c0 := b0.cell 0
      have c1 := b0.cell 1
      have c2 := b0.cell 2
      have c3 := b0.cell 3
      have c4 := b0.cell 4
      have c5 := b0.cell 5
      simp at c0 c1 c2 c3 c4 c5
      have hlt := b0.lt
      have hq0 : q < W0.heap.size := by omega
      obtain ⟨K, hK⟩ : ∃ K : Int, (e.kind : Int) = K := ⟨_, rfl⟩
      rw [hK] at hW0 HB0 c0 ⊢
      obtain ⟨P, hP⟩ : ∃ P, valueE ss a = P := ⟨_, rfl⟩
      rw [hP] at HA1 hx32 ⊢
      have HAP : Hid (∀ x, is32 x → ∀ W, Calls Tryz.prog 51 #[.int .u8 e.oper, .int .i32 x, .int .i32 0] W (RetV (wmO (applyO e.oper x 0)) W)) := Lib.hid fun x hx W => rApply14 e.oper hx is32_0 W
      have HCV : Hid (∀ x, is32 x → ∀ W, Calls Tryz.prog 52 #[.int .u8 e.tk, .int .i32 x] W (RetQ (wmO (convO e.tk x)) W)) := Lib.hid fun x hx W => rConvert14 e.tk x hx W
      unfold wmO at HAT HA1 HAP HCV
      have HX32 := Lib.hid hx32
      clear b0 K0 hf hkes HC hl hin hcell hsi hpa h32 h32p h32e hst hP hx32
      cases P with
      | none =>
        simp only [Option.getD_none, Option.isSome_none] at HA1
        have hK3 : K = 3 ∨ K = 4 ∨ K = 6 := by omega
        clear hk hK HAT HAP HCV
        rcases hK3 with rfl | rfl | rfl
        all_goals
          go_enter Tryz.func28, Tryz.ntmps28
          go_wp2_with first
            | (go_at_call 28; (with_reducible refine (HA1.out _ HK0.out).mono ?_); rintro e1 w1 ⟨rfl, hb1⟩)
          go_ret2
          exact ⟨rfl, HK0.out.trans (hb1.mono HK0.out.size)⟩
      | some x =>
        simp only [Option.getD_some, Option.isSome_some] at HA1
        have hx := HX32.out x rfl
        have HX := Lib.hid hx
        unfold is32 at hx
        have hone : oneV ss e.kind e.oper e.tk e.v x = if e.kind = 3 then atV ss e.v x else if e.kind = 4 then applyO e.oper x 0 else if e.kind = 6 then convO e.tk x else none := rfl
        simp only
        rw [hone]
        clear hone
        rcases hk with hk | hk | hk
        · rw [if_pos hk]
          obtain rfl : K = 3 := by omega
          clear hk hK HAP HCV
          go_enter Tryz.func28, Tryz.ntmps28
          go_wp2_with first
            | (go_at_call 28; (with_reducible refine (HA1.out _ HK0.out).mono ?_); rintro e1 w1 ⟨rfl, hb1⟩
               have K1 := Lib.hid (HK0.out.trans (hb1.mono HK0.out.size))
               have b1 := HB0.out.call hb1
               have d0 := b1.cell 0
               have d1 := b1.cell 1
               have d2 := b1.cell 2
               have d3 := b1.cell 3
               have d4 := b1.cell 4
               have d5 := b1.cell 5
               simp at d0 d1 d2 d3 d4 d5
               have hlt1 := b1.lt
               clear b1 hb1)
            | (go_at_call 50; (with_reducible refine (HAT.out _ _ K1.out).mono ?_); rintro e2 w2 ⟨rfl, hb2⟩)
          go_ret2
          exact ⟨rfl, K1.out.trans (hb2.mono K1.out.size)⟩
        · rw [if_neg (by omega), if_pos hk]
          obtain rfl : K = 4 := by omega
          clear hk hK HAT HCV
          go_enter Tryz.func28, Tryz.ntmps28
          go_wp2_with first
            | (go_at_call 28; (with_reducible refine (HA1.out _ HK0.out).mono ?_); rintro e1 w1 ⟨rfl, hb1⟩
               have K1 := Lib.hid (HK0.out.trans (hb1.mono HK0.out.size))
               have b1 := HB0.out.call hb1
               have d0 := b1.cell 0
               have d1 := b1.cell 1
               have d2 := b1.cell 2
               have d3 := b1.cell 3
               have d4 := b1.cell 4
               have d5 := b1.cell 5
               simp at d0 d1 d2 d3 d4 d5
               have hlt1 := b1.lt
               clear b1 hb1)
            | (go_at_call 51; (with_reducible refine (HAP.out _ HX.out _).mono ?_); rintro e2 w2 ⟨rfl, hb2⟩)
          go_ret2
          exact ⟨rfl, K1.out.trans (hb2.mono K1.out.size)⟩
        · rw [if_neg (by omega), if_neg (by omega), if_pos hk]
          obtain rfl : K = 6 := by omega
          clear hk hK HAT HAP
          go_enter Tryz.func28, Tryz.ntmps28
          go_wp2_with first
            | (go_at_call 28; (with_reducible refine (HA1.out _ HK0.out).mono ?_); rintro e1 w1 ⟨rfl, hb1⟩
               have K1 := Lib.hid (HK0.out.trans (hb1.mono HK0.out.size))
               have b1 := HB0.out.call hb1
               have d0 := b1.cell 0
               have d1 := b1.cell 1
               have d2 := b1.cell 2
               have d3 := b1.cell 3
               have d4 := b1.cell 4
               have d5 := b1.cell 5
               simp at d0 d1 d2 d3 d4 d5
               have hlt1 := b1.lt
               clear b1 hb1)
            | (go_at_call 52; (with_reducible refine (HCV.out _ HX.out _).mono ?_); rintro e2 w2 ⟨rfl, rfl⟩)
          go_ret2
          exact ⟨rfl, K1.out⟩
    | a :: b :: r =>
      have ma : a ∈ e.l := by rw [hl]; simp
      have mb : b ∈ e.l := by rw [hl]; simp
      have hr : r = [] := by
        rw [hl] at hlen2
        simp only [List.length_cons] at hlen2
        exact List.length_eq_zero_iff.1 (by omega)
      subst hr
      have h5 := (fieldsB_len hf).2.2 (by rw [hl]; rfl)
      have h1 : e.kind = 5 := h5.1
      rw [valueE_2 hl]
      rw [hl] at b0 hW0 HB0 hkes
      have HA1 := HC a ma
      have HA2 := HC b mb
      have hx32 := fun x (h : valueE ss a = some x) => value_32 hst a (h32p a ma) h
      have hy32 := fun x (h : valueE ss b = some x) => value_32 hst b (h32p b mb) h
      simp only [List.length_cons, List.length_nil, Nat.zero_add] at b0 hW0 HB0 ⊢
      obtain ⟨q, off, hA, hq, hcell⟩ := two_at hkes
      have hqw : q < w.heap.size := Nat.lt_of_lt_of_le hq hB
      obtain ⟨⟨x0, x1, x2, x3, x4, x5⟩, -⟩ := hcell W0 (K0.mono hB)
      have HCL : Hid (∀ W, Below w.heap.size w W → _) := Lib.hid fun W hb => hcell W (hb.mono hB)
      simp only [KE.cells] at HA1 HA2
      rw [hA] at b0 hW0 HB0 ⊢
      have c0 := b0.cell 0
      have c1 := b0.cell 1
      have c2 := b0.cell 2
      have c3 := b0.cell 3
      have c4 := b0.cell 4
      have c5 := b0.cell 5
      simp at c0 c1 c2 c3 c4 c5
      have hlt := b0.lt
      have hq0 : q < W0.heap.size := by omega
      obtain ⟨K, hK⟩ : ∃ K : Int, (e.kind : Int) = K := ⟨_, rfl⟩
      obtain ⟨O, hO⟩ : ∃ K : Int, (e.oper : Int) = K := ⟨_, rfl⟩
      obtain ⟨P, hP⟩ : ∃ P, valueE ss a = P := ⟨_, rfl⟩
      obtain ⟨Q, hQ⟩ : ∃ P, valueE ss b = P := ⟨_, rfl⟩
      rw [hP] at HA1 hx32 ⊢
      rw [hQ] at HA2 hy32 ⊢
      have HAP : Hid (∀ x y, is32 x → is32 y → ∀ W, Calls Tryz.prog 51 #[.int .u8 e.oper, .int .i32 x, .int .i32 y] W (RetV (wmO (applyO e.oper x y)) W)) := Lib.hid fun x y hx hy W => rApply14 e.oper hx hy W
      unfold wmO at HA1 HA2 HAP
      rw [hK, hO] at hW0 HB0 ⊢
      rw [hO] at HAP c1
      rw [hK] at c0
      obtain rfl : K = 5 := by omega
      have HX32 := Lib.hid hx32
      have HY32 := Lib.hid hy32
      have HO := Lib.hid hO
      clear b0 K0 hk hf hkes HC hl hin hcell hA hsi hpa h32 h32p h32e hst hP hQ hx32 hy32 hK hO h1 h5 HAT
      cases P with
      | none =>
        simp only [Option.getD_none, Option.isSome_none] at HA1
        clear HA2 HAP HCL HX32 HY32
        go_enter Tryz.func28, Tryz.ntmps28
        go_wp2_with first
          | (go_at_call 28; (with_reducible refine (HA1.out _ HK0.out).mono ?_); rintro e1 w1 ⟨rfl, hb1⟩)
        go_ret2
        exact ⟨rfl, HK0.out.trans (hb1.mono HK0.out.size)⟩
      | some x =>
        simp only [Option.getD_some, Option.isSome_some] at HA1
        have HX := Lib.hid (HX32.out x rfl)
        simp only
        clear HX32
        by_cases hstop : (e.oper = 20 ∧ x = 0) ∨ (e.oper = 21 ∧ x = 1)
        · rw [if_pos hstop]
          have hst2 : (O = 20 ∧ x = 0) ∨ (O = 21 ∧ x = 1) := by have := HO.out; omega
          clear hstop HA2 HAP HCL HY32
          rcases hst2 with ⟨rfl, rfl⟩ | ⟨rfl, rfl⟩
          all_goals
            go_enter Tryz.func28, Tryz.ntmps28
            go_wp2_with first
              | (go_at_call 28; (with_reducible refine (HA1.out _ HK0.out).mono ?_); rintro e1 w1 ⟨rfl, hb1⟩
                 have b1 := HB0.out.call hb1
                 have d0 := b1.cell 0
                 have d1 := b1.cell 1
                 have d2 := b1.cell 2
                 have d3 := b1.cell 3
                 have d4 := b1.cell 4
                 have d5 := b1.cell 5
                 simp at d0 d1 d2 d3 d4 d5
                 have hlt1 := b1.lt
                 have K1 := Lib.hid (HK0.out.trans (hb1.mono HK0.out.size))
                 clear b1 hb1)
            go_ret2
            exact ⟨rfl, K1.out⟩
        · rw [if_neg hstop]
          have hgo : (O = 20 ∧ (x == 0) = false) ∨ (O = 21 ∧ (x == 1) = false) ∨ ((O == 20) = false ∧ (O == 21) = false) := by
            have := HO.out
            by_cases h20 : O = 20
            · exact .inl ⟨h20, by simp; omega⟩
            · by_cases h21 : O = 21
              · exact .inr (.inl ⟨h21, by simp; omega⟩)
              · exact .inr (.inr ⟨by simpa using h20, by simpa using h21⟩)
          clear hstop
          cases Q with
          | none =>
            simp only [Option.getD_none, Option.isSome_none] at HA2
            clear HAP HY32
            rcases hgo with ⟨rfl, g1⟩ | ⟨rfl, g1⟩ | ⟨g1, g2⟩
            all_goals
              go_enter Tryz.func28, Tryz.ntmps28
              go_wp2_with first
                | (go_at_call 28; (with_reducible refine (HA1.out _ HK0.out).mono ?_); rintro e1 w1 ⟨rfl, hb1⟩
                   have b1 := HB0.out.call hb1
                   have d0 := b1.cell 0
                   have d1 := b1.cell 1
                   have d2 := b1.cell 2
                   have d3 := b1.cell 3
                   have d4 := b1.cell 4
                   have d5 := b1.cell 5
                   simp at d0 d1 d2 d3 d4 d5
                   have hlt1 := b1.lt
                   have K1 := Lib.hid (HK0.out.trans (hb1.mono HK0.out.size))
                   obtain ⟨-, y0, y1, y2, y3, y4, y5⟩ := HCL.out _ K1.out
                   have hq1 : q < w1.heap.size := Nat.lt_of_lt_of_le hqw K1.out.size
                   clear b1 hb1)
                | (go_at_call 28; (with_reducible refine (HA2.out _ K1.out).mono ?_); rintro e2 w2 ⟨rfl, hb2⟩)
              go_ret2
              exact ⟨rfl, K1.out.trans (hb2.mono K1.out.size)⟩
          | some y =>
            simp only [Option.getD_some, Option.isSome_some] at HA2
            have HY := Lib.hid (HY32.out y rfl)
            clear HY32
            simp only
            rcases hgo with ⟨rfl, g1⟩ | ⟨rfl, g1⟩ | ⟨g1, g2⟩
            all_goals
              go_enter Tryz.func28, Tryz.ntmps28
              go_wp2_with first
                | (go_at_call 28; (with_reducible refine (HA1.out _ HK0.out).mono ?_); rintro e1 w1 ⟨rfl, hb1⟩
                   have b1 := HB0.out.call hb1
                   have d0 := b1.cell 0
                   have d1 := b1.cell 1
                   have d2 := b1.cell 2
                   have d3 := b1.cell 3
                   have d4 := b1.cell 4
                   have d5 := b1.cell 5
                   simp at d0 d1 d2 d3 d4 d5
                   have B1 := Lib.hid b1
                   have hlt1 := b1.lt
                   have K1 := Lib.hid (HK0.out.trans (hb1.mono HK0.out.size))
                   obtain ⟨-, y0, y1, y2, y3, y4, y5⟩ := HCL.out _ K1.out
                   have hq1 : q < w1.heap.size := Nat.lt_of_lt_of_le hqw K1.out.size
                   clear b1 hb1)
                | (go_at_call 28; (with_reducible refine (HA2.out _ K1.out).mono ?_); rintro e2 w2 ⟨rfl, hb2⟩
                   have K2 := Lib.hid (K1.out.trans (hb2.mono K1.out.size))
                   have b2 := B1.out.call hb2
                   have f0 := b2.cell 0
                   have f1 := b2.cell 1
                   have f2 := b2.cell 2
                   have f3 := b2.cell 3
                   have f4 := b2.cell 4
                   have f5 := b2.cell 5
                   simp at f0 f1 f2 f3 f4 f5
                   have hlt2 := b2.lt
                   clear b2 hb2)
                | (go_at_call 51; (with_reducible refine (HAP.out x y HX.out HY.out _).mono ?_); rintro e3 w3 ⟨rfl, hb3⟩)
              go_ret2
              exact ⟨rfl, K2.out.trans (hb3.mono K2.out.size)⟩
end Go.Proofs.YtbefmlioampgcaaGreatDoor
