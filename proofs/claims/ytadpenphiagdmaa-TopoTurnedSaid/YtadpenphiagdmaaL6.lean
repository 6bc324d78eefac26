/- The law TopoPeers walked. -/
import Derived.Test.YtadpenphiagdmaaL5
namespace Go.Proofs.Ytadpenphiagdmaa
open Go.RowKit
set_option linter.unusedVariables false
set_option linter.unusedSimpArgs false

theorem ownsRow_max {w : World} {B e size n cap : Nat} {A : Option Addr} {xs : List Value} (h : w.ownsRow B e size (.slice A n cap) n xs) : cap ≤ maxLen := by
  rcases h.2 with ⟨e1, _⟩ | ⟨g, cap', cur, e1, _, _, _, hc, _⟩
  · injection e1 with _ e2 e3; subst e3; exact Nat.zero_le _
  · injection e1 with _ _ e3; subst e3; exact hc
theorem two_mays (N hn hl : Int) (ws : List Wire) : ∃ b : Bool,
    (∀ A m c w, Reads w w.heap.size 4 A m (wcells ws) → m ≤ 1000000 → Calls Try.prog 18 #[.agg #[.int .i64 N, .slice A m c, .int .i64 hn, .int .i64 hl]] w (RetV (.bool b) w)) ∧
    (∀ A m c w, Reads w w.heap.size 4 A m (wcells ws) → m ≤ 1000000 → Calls Try.prog 19 #[.agg #[.int .i64 N, .slice A m c, .int .i64 hn, .int .i64 hl]] w (RetV (.bool b) w)) :=
  ⟨mayB N ws hn hl, fun A m c w hr hm => tmay N hn hl A m c ws w hr hm, fun A m c w hr hm => rMay N hn hl A m c ws w hr hm⟩
theorem two_peers (N hn hl : Int) (ws : List Wire) : ∃ (P Q : Int → Int → Int) (S : Int → Int → Bool),
    (∀ a b A m c w, Reads w w.heap.size 4 A m (wcells ws) → m ≤ 1000000 → Calls Try.prog 20 #[.agg #[.int .i64 N, .slice A m c, .int .i64 hn, .int .i64 hl], .agg #[.int .i64 a, .int .i64 b]] w (RetV (.tuple #[.agg #[.int .i64 (P a b), .int .i64 (Q a b)], .bool (S a b)]) w)) ∧
    (∀ a b A m c w, Reads w w.heap.size 4 A m (wcells ws) → m ≤ 1000000 → Calls Try.prog 21 #[.agg #[.int .i64 N, .slice A m c, .int .i64 hn, .int .i64 hl], .agg #[.int .i64 a, .int .i64 b]] w (RetV (.tuple #[.agg #[.int .i64 (P a b), .int .i64 (Q a b)], .bool (S a b)]) w)) := by
  have e : ∀ r, peerV r = .tuple #[.agg #[.int .i64 (r.getD (0, 0)).1, .int .i64 (r.getD (0, 0)).2], .bool r.isSome] := fun r => by
    rcases r with _ | ⟨a, b⟩ <;> rfl
  refine ⟨fun a b => ((rpeerOf N ws hn hl a b).getD (0, 0)).1, fun a b => ((rpeerOf N ws hn hl a b).getD (0, 0)).2, fun a b => (rpeerOf N ws hn hl a b).isSome, ?_, ?_⟩
  · intro a b A m c w hr hm
    have := tPeer N hn hl a b A m c ws w hr hm
    rwa [e] at this
  · intro a b A m c w hr hm
    have := rPeer N hn hl a b A m c ws w hr hm
    rwa [e] at this
set_option maxRecDepth 100000 in
set_option maxHeartbeats 2000000 in
theorem peers_walk (N hn hl : Int) (A : Option Addr) (m c : Nat) (ws : List Wire) (x y : Int) (w : World) (hr : Reads w w.heap.size 4 A m (wcells ws)) (hmc : m ≤ c) (hc : c ≤ maxLen) :
    Calls Try.prog 4 #[.agg #[.int .i64 N, .slice A m c, .int .i64 hn, .int .i64 hl], .agg #[.int .i64 x, .int .i64 y]] w (RetV (.bool true) w) := by
  obtain ⟨k0, b0, p0⟩ := lay2 w #[.int .i64 N, .slice A m c, .int .i64 hn, .int .i64 hl] #[.int .i64 x, .int .i64 y] 26 24
  have h40 : (ws.take 40).length ≤ 40 := by rw [List.length_take]; omega
  have H9 := lcopied N hn hl A m c ws ((w.alloc (.cells #[.int .i64 N, .slice A m c, .int .i64 hn, .int .i64 hl] 26)).alloc (.cells #[.int .i64 x, .int .i64 y] 24)) (hr.up k0 k0.size) hmc hc
  obtain ⟨ws1, hw1⟩ : ∃ ws1, ws.take 40 = ws1 := ⟨_, rfl⟩
  rw [hw1] at H9 h40
  clear hw1 hr
  have H9' := Lib.hid H9; clear H9
  go_enter Try.func4, Try.ntmps4
  go_upto_region 2 with (first
    | (go_at_call 9; refine H9'.out.mono ?_; clear H9'; rintro e w1 ⟨A1, m1, c1, rfl, ho1, hmc1, hm1, hb1⟩
       have Hm1 := Lib.hid hm1
       clear hm1
       have b1 := b0.call hb1
       have p1 := p0.call hb1
       have l1 := b1.lt
       have c10 := b1.cell 0
       have c11 := b1.cell 1
       have c12 := b1.cell 2
       have c13 := b1.cell 3
       simp at c10 c11 c12 c13
       have f10 := b1.frozen 0
       have f11 := b1.frozen 1
       have f12 := b1.frozen 2
       have f13 := b1.frozen 3
       ))
  have Hms := Hm1.out
  rw [← Hm1.out] at h40
  clear Hm1
  have Hms' := Lib.hid Hms; clear Hms
  have hk1 := k0.call k0.size hb1
  have hbx := box4 hk1 b1 (by rfl) (Nat.le_refl _) ho1 (by simp; omega) (.int .i64 N) (.slice A1 m1 c1) (.int .i64 hn) (.int .i64 hl)
  have hpx := ((((p1.far (p := ⟨w.heap.size, 0, none⟩) (by simp) (.int .i64 N)).far (p := ⟨w.heap.size, 1, none⟩) (by simp) (.slice A1 m1 c1)).far (p := ⟨w.heap.size, 2, none⟩) (by simp) (.int .i64 hn)).far (p := ⟨w.heap.size, 3, none⟩) (by simp) (.int .i64 hl))
  have hcap := ownsRow_max ho1
  obtain ⟨W, hW⟩ : ∃ W, ((((w1.setCell ⟨w.heap.size, 0, none⟩ (.int .i64 N)).setCell ⟨w.heap.size, 1, none⟩ (.slice A1 m1 c1)).setCell ⟨w.heap.size, 2, none⟩ (.int .i64 hn)).setCell ⟨w.heap.size, 3, none⟩ (.int .i64 hl)) = W := ⟨_, rfl⟩
  rw [hW] at hbx hpx ⊢
  obtain ⟨kW, bW, oW⟩ := hbx
  have rW := Reads.of_own oW
  clear hW oW ho1 f10 f11 f12 f13 c10 c11 c12 c13 b1 hk1 hb1 k0 b0 l1 p0 p1
  have G9 := lcopied N hn hl A1 m1 c1 ws1 W rW hmc1 hcap
  rw [List.take_of_length_le (by have := Hms'.out; omega)] at G9
  have G9' := Lib.hid G9; clear G9
  have c10 := bW.cell 0
  have c11 := bW.cell 1
  have c12 := bW.cell 2
  have c13 := bW.cell 3
  simp at c10 c11 c12 c13
  go_upto_region 3 with (first
    | (go_at_call 9; refine G9'.out.mono ?_; clear G9'; rintro e w2 ⟨A2, m2, c2, rfl, ho2, _, hm2, hb2⟩
       have Hm2 := Lib.hid hm2
       clear hm2
       have r2 := rW.call hb2
       have b2 := bW.call hb2
       have p2 := hpx.call hb2
       have k2 := kW.call kW.size hb2
       have d10 := b2.cell 0
       have d11 := b2.cell 1
       have d12 := b2.cell 2
       have d13 := b2.cell 3
       simp at d10 d11 d12 d13
       ))
  obtain rfl : m2 = m1 := by have := Hms'.out; have := Hm2.out; omega
  have hbO := Blk.new w2 26 #[.int .i64 N, .slice A2 m2 c2, .int .i64 hn, .int .i64 hl]
  have rO := (Reads.of_own ho2).alloc' (.cells #[.int .i64 N, .slice A2 m2 c2, .int .i64 hn, .int .i64 hl] 26)
  have rT := r2.alloc' (.cells #[.int .i64 N, .slice A2 m2 c2, .int .i64 hn, .int .i64 hl] 26)
  have bT := b2.alloc (.cells #[.int .i64 N, .slice A2 m2 c2, .int .i64 hn, .int .i64 hl] 26)
  have pT := p2.alloc (.cells #[.int .i64 N, .slice A2 m2 c2, .int .i64 hn, .int .i64 hl] 26)
  have kT := k2.alloc k2.size (.cells #[.int .i64 N, .slice A2 m2 c2, .int .i64 hn, .int .i64 hl] 26)
  obtain ⟨V, hV⟩ : ∃ V, w2.alloc (.cells #[.int .i64 N, .slice A2 m2 c2, .int .i64 hn, .int .i64 hl] 26) = V := ⟨_, rfl⟩
  obtain ⟨g, hg⟩ : ∃ g, w2.heap.size = g := ⟨_, rfl⟩
  rw [hV] at hbO rO rT bT pT kT ⊢
  rw [hg] at hbO ⊢
  clear hV hg ho2 r2 b2 p2 k2 hb2 rW bW kW hpx c10 c11 c12 c13 d10 d11 d12 d13 Hm2
  obtain ⟨mb, H18, H19⟩ := two_mays N hn hl ws1
  have G18 := Lib.hid H18; clear H18
  have G19 := Lib.hid H19; clear H19
  have c10 := bT.cell 0
  have c11 := bT.cell 1
  have c12 := bT.cell 2
  have c13 := bT.cell 3
  simp at c10 c11 c12 c13
  have d10 := hbO.cell 0
  have d11 := hbO.cell 1
  have d12 := hbO.cell 2
  have d13 := hbO.cell 3
  simp at d10 d11 d12 d13
  have lO := hbO.lt
  have lT := bT.lt
  go_cut [20] (fun s wx => s = .bool false ∧ Below V.heap.size V wx)
  case first =>
    go_region_held3 (fun w' => V.heap.size ≤ w'.heap.size ∧ ∀ b o, b < V.heap.size → w'.cell? ⟨b, o, none⟩ = V.cell? ⟨b, o, none⟩) ((first | exact SBel.drew | exact SBel.drew.below hb1 | exact (SBel.drew.below hb1).below hb2)) (first
      | (go_at_call 18; refine (G18.out _ _ _ _ rO.drew (by omega)).mono ?_; rintro e w' ⟨rfl, hb1⟩)
      | (go_at_call 19; refine (G19.out _ _ _ _ rT.drew (by omega)).mono ?_; rintro e w' ⟨rfl, hb1⟩)
      | (go_at_call 18; refine (G18.out _ _ _ _ (rO.drew.call hb1) (by omega)).mono ?_; rintro e w'' ⟨rfl, hb2⟩)
      | (go_at_call 19; refine (G19.out _ _ _ _ (rT.drew.call hb1) (by omega)).mono ?_; rintro e w'' ⟨rfl, hb2⟩))
    all_goals
      go_wp2
      go_meet
      exact ⟨rfl, ((Below.refl V.heap.size V).drew.trans hb1).call hb1.size hb2⟩
  case rest =>
    obtain ⟨rfl, hbc⟩ := hcut
    have rO3 := rO.call hbc
    have rT3 := rT.call hbc
    have bT3 := bT.call hbc
    have pT3 := pT.call hbc
    have bO3 := hbO.call hbc
    have kT3 := kT.call kT.size hbc
    clear c10 c11 c12 c13 d10 d11 d12 d13 rO rT bT pT hbO kT lO lT hbc G18 G19
    obtain ⟨P, Q, S, H20, H21⟩ := two_peers N hn hl ws1
    have G20 := Lib.hid H20; clear H20
    have G21 := Lib.hid H21; clear H21
    have Gs := Lib.hid (lsame N hn hl A2 A1 m2 c2 c1 ws1)
    have Gw := Lib.hid lworks
    have hpe := portEq_self
    go_wp2
    go_loopw [6] (fun i wr => ∃ k : Nat, i = .int .i64 ((k : Int) - 1) ∧ k ≤ 33 ∧ Below w.heap.size w wr ∧ Blk wr w.heap.size 26 #[.int .i64 N, .slice A1 m2 c1, .int .i64 hn, .int .i64 hl] ∧ Blk wr (w.heap.size + 1) 24 #[.int .i64 x, .int .i64 y] ∧
        Blk wr g 26 #[.int .i64 N, .slice A2 m2 c2, .int .i64 hn, .int .i64 hl] ∧ Reads wr wr.heap.size 4 A1 m2 (wcells ws1) ∧ Reads wr wr.heap.size 4 A2 m2 (wcells ws1)) (fun i _ => 33 - (intOf i + 1).toNat)
    case atStart => exact ⟨0, rfl, by omega, kT3, bT3, pT3, bO3, rT3, rO3⟩
    case round =>
      obtain ⟨k, rfl, hk, kB, bB, pB, oB, rB, rC⟩ := hrel
      clear rO3 rT3 bT3 pT3 bO3 kT3
      have c10 := bB.cell 0
      have c11 := bB.cell 1
      have c12 := bB.cell 2
      have c13 := bB.cell 3
      simp at c10 c11 c12 c13
      have d10 := oB.cell 0
      have d11 := oB.cell 1
      have d12 := oB.cell 2
      have d13 := oB.cell 3
      simp at d10 d11 d12 d13
      have e10 := pB.cell 0
      have e11 := pB.cell 1
      simp at e10 e11
      have lB := bB.lt
      have lO := oB.lt
      have lP := pB.lt
      by_cases hlt : k < 33
      · have h1 : (k : Int) - 1 < 32 := by omega
        have HP : Hid (k = 0 ∨ 1 ≤ (k : Int)) := Lib.hid (by omega)
        rcases HP.out with hz | hz
        · have e0 : ((k : Int) - 1) = -1 := by omega
          rw [e0]
          go_wp2_with (first
            | (go_at_call 20; refine (G20.out _ _ _ _ _ _ (rC.alloc' _) (by omega)).mono ?_; rintro e w2 ⟨rfl, hb2⟩
               have rC2 := (rC.alloc' _).call hb2
               have rB2 := (rB.alloc' _).call hb2
               have bB2 := (bB.alloc _).call hb2
               have oB2 := (oB.alloc _).call hb2
               have pB2 := (pB.alloc _).call hb2
               have q2 := (Blk.new wr 24 _).call hb2
               have k2 := (kB.alloc kB.size _).call (by simp; have := kB.size; omega) hb2
               have lB2 := bB2.lt
               have lq2 := q2.lt
               have g10 := bB2.cell 0
               have g11 := bB2.cell 1
               have g12 := bB2.cell 2
               have g13 := bB2.cell 3
               simp at g10 g11 g12 g13
               have h10 := q2.cell 0
               have h11 := q2.cell 1
               simp at h10 h11
               )
            | (go_at_call 21; refine (G21.out _ _ _ _ _ _ (rB2.alloc' _) (by omega)).mono ?_; rintro e w3 ⟨rfl, hb3⟩
               have rC3 := (rC2.alloc' _).call hb3
               have rB3 := (rB2.alloc' _).call hb3
               have bB3 := (bB2.alloc _).call hb3
               have oB3 := (oB2.alloc _).call hb3
               have pB3 := (pB2.alloc _).call hb3
               have q3 := (Blk.new w2 24 _).call hb3
               have k3 := (k2.alloc k2.size _).call (by simp; have := k2.size; omega) hb3
               have lq3 := q3.lt
               have j10 := q3.cell 0
               have j11 := q3.cell 1
               simp at j10 j11
               ))
          go_roundw
          case rel => exact ⟨k + 1, by (first | (simp; done) | (simp; omega)), by omega, k3.alloc k3.size _, bB3.alloc _, pB3.alloc _, oB3.alloc _, rB3.alloc' _, rC3.alloc' _⟩
          case measure => first | (simp [intOf]; done) | (simp [intOf]; omega)
        · go_wp2_with (first
            | (go_at_call 20; refine (G20.out _ _ _ _ _ _ (rC.alloc' _) (by omega)).mono ?_; rintro e w2 ⟨rfl, hb2⟩
               have rC2 := (rC.alloc' _).call hb2
               have rB2 := (rB.alloc' _).call hb2
               have bB2 := (bB.alloc _).call hb2
               have oB2 := (oB.alloc _).call hb2
               have pB2 := (pB.alloc _).call hb2
               have q2 := (Blk.new wr 24 _).call hb2
               have k2 := (kB.alloc kB.size _).call (by simp; have := kB.size; omega) hb2
               have lB2 := bB2.lt
               have lq2 := q2.lt
               have g10 := bB2.cell 0
               have g11 := bB2.cell 1
               have g12 := bB2.cell 2
               have g13 := bB2.cell 3
               simp at g10 g11 g12 g13
               have h10 := q2.cell 0
               have h11 := q2.cell 1
               simp at h10 h11
               )
            | (go_at_call 21; refine (G21.out _ _ _ _ _ _ (rB2.alloc' _) (by omega)).mono ?_; rintro e w3 ⟨rfl, hb3⟩
               have rC3 := (rC2.alloc' _).call hb3
               have rB3 := (rB2.alloc' _).call hb3
               have bB3 := (bB2.alloc _).call hb3
               have oB3 := (oB2.alloc _).call hb3
               have pB3 := (pB2.alloc _).call hb3
               have q3 := (Blk.new w2 24 _).call hb3
               have k3 := (k2.alloc k2.size _).call (by simp; have := k2.size; omega) hb3
               have lq3 := q3.lt
               have j10 := q3.cell 0
               have j11 := q3.cell 1
               simp at j10 j11
               ))
          go_roundw
          case rel => exact ⟨k + 1, by (first | (simp; done) | (simp; omega)), by omega, k3.alloc k3.size _, bB3.alloc _, pB3.alloc _, oB3.alloc _, rB3.alloc' _, rC3.alloc' _⟩
          case measure => first | (simp [intOf]; done) | (simp [intOf]; omega)
      · have h1 : ¬ ((k : Int) - 1 < 32) := by omega
        go_wp2_with (first
          | (go_at_call 22; refine (Gs.out _ rC rB (by omega)).mono ?_; rintro e w2 ⟨rfl, hb2⟩
             have k2 := kB.call kB.size hb2)
          | (go_at_call 17; refine (Gw.out _).mono ?_; rintro e w3 ⟨rfl, hb3⟩
             have k3 := k2.call k2.size hb3))
        go_ret
        exact ⟨rfl, k3⟩
end Go.Proofs.Ytadpenphiagdmaa
