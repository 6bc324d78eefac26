/- Texts that belong together, joined: what each one holds is told ahead of it. -/
import Derived.Test.YtekamebpjjkifaaHK14
import Derived.Test.YtekamebpjjkifaaHK2
/- The ends of channels in a process, in the document: Uses, walked. -/
namespace Go.Proofs.Ytekamebpjjkifaa
open Go.RowKit
set_option linter.unusedSimpArgs false
set_option linter.unusedVariables false

def UsesOk (p : KP) : Prop := ∀ (c : Int) (out : Bool) (B : Nat) (w : World), p.In w B → B ≤ w.heap.size →
  Calls Try.prog 39 #[.agg p.cells, .int .i64 c, .bool out] w (RetV (.bool (decide ((c, out) ∈ endsP p))) w)
theorem ownE_mem (p : KP) (c : Int) (out : Bool) : (c, out) ∈ ownE p ↔ p.c = c ∧ (p.kind = 6 ∧ out = true ∨ p.kind = 5 ∧ out = false) := by
  unfold ownE
  split
  · rename_i h; simp [h]; intro _; exact eq_comm
  · split
    · rename_i h6 h; simp [h]; intro _; exact eq_comm
    · rename_i h6 h5
      simp [h6, h5]
/-- The state of Uses. -/
structure UsS (w W : World) (cs : Array Value) : Prop where
  bel : Below w.heap.size w W
  pb : Blk W w.heap.size 31 cs
theorem UsS.call {w W W1 : World} {cs : Array Value} (h : UsS w W cs) (hb : Below W.heap.size W W1) : UsS w W1 cs := ⟨h.bel.trans (hb.mono h.bel.size), h.pb.call hb⟩
set_option maxRecDepth 100000 in
set_option maxHeartbeats 8000000 in
theorem rUses1 (p : KP) (hb : Bodies p) (hil : ∀ x ∈ p.l, UsesOk x) (hig : ∀ g ∈ p.g, ∀ x ∈ g.body, UsesOk x) : UsesOk p := by
  intro c out B w hi hB
  have HIL := Lib.hid hil
  have HIG := Lib.hid hig
  have HBD := Lib.hid hb
  have HW : Hid (∀ w1 : World, Below w.heap.size w w1 → p.In w1 B ∧ B ≤ w1.heap.size) := Lib.hid fun w1 hb => ⟨hi.below (hb.mono hB), Nat.le_trans hB hb.size⟩
  have hlen := hi.one.1.2.2.2.2.2
  have hlen2 := hi.one.1.2.2.2.2.1
  unfold lenOk at hlen hlen2
  obtain ⟨m, hm⟩ : ∃ m, p.l.length = m := ⟨_, rfl⟩
  obtain ⟨mg, hmg⟩ : ∃ m, p.g.length = m := ⟨_, rfl⟩
  rw [hm] at hlen
  rw [hmg] at hlen2
  have HM := Lib.hid hm
  have HMG := Lib.hid hmg
  obtain ⟨PA, hPA⟩ : ∃ q, p.Al = q := ⟨_, rfl⟩
  obtain ⟨PG, hPG⟩ : ∃ q, p.Ag = q := ⟨_, rfl⟩
  have HPA := Lib.hid hPA
  have HPG := Lib.hid hPG
  obtain ⟨W0, hW0⟩ : ∃ W0, w.alloc (.cells p.cells 31) = W0 := ⟨_, rfl⟩
  obtain ⟨l1, l2⟩ := lay1 w p.cells 31
  rw [hW0] at l1 l2
  have S : Hid (UsS w W0 p.cells) := Lib.hid ⟨l1, l2⟩
  have HEQ : Hid (∀ R : Bool, ((c, out) ∈ ownE p ∨ (c, out) ∈ endsPs p.l ∨ (c, out) ∈ endsGs p.g ↔ R = true) → decide ((c, out) ∈ endsP p) = R) := Lib.hid fun R h => by
    rw [Bool.eq_iff_iff, ← h, decide_eq_true_eq, ownE_eq, List.mem_append, List.mem_append]
  generalize decide ((c, out) ∈ endsP p) = R at *
  simp only [KP.cells, hm, hmg, hPA, hPG] at l2 hW0 S ⊢
  have e0 := l2.cell 0
  have e1 := l2.cell 1
  have e2 := l2.cell 2
  have e3 := l2.cell 3
  have e4 := l2.cell 4
  have e5 := l2.cell 5
  have e6 := l2.cell 6
  have e7 := l2.cell 7
  simp at e0 e1 e2 e3 e4 e5 e6 e7
  clear l1 l2 hi hm hmg hil hig hb hPA hPG
  go_enter Try.func39, Try.ntmps39
  go_upto_region 1 with fail
  go_cut [30] (fun s30 wx => s30 = .bool (decide ((c, out) ∈ ownE p)) ∧ wx = W0)
  case first =>
    by_cases hc : p.c = c
    · subst hc
      by_cases h6 : p.kind = 6
      · have y6 : ((p.kind : Int) == 6) = true := by simp [h6]
        cases out with
        | true =>
          have HX := Lib.hid ((ownE_mem p p.c true).2 ⟨rfl, .inl ⟨h6, rfl⟩⟩)
          clear h6
          go_wp2_with fail
          go_meet
          exact ⟨by rw [decide_eq_true HX.out], rfl⟩
        | false =>
          have HX : Hid ((p.c, false) ∉ ownE p) := Lib.hid (by rw [ownE_mem]; simp [h6])
          have y5 : ((p.kind : Int) == 5) = false := by simp [h6]
          clear h6
          go_wp2_with fail
          go_meet
          exact ⟨by rw [decide_eq_false HX.out], rfl⟩
      · have y6 : ((p.kind : Int) == 6) = false := by simp; omega
        by_cases h5 : p.kind = 5
        · have y5 : ((p.kind : Int) == 5) = true := by simp [h5]
          cases out with
          | true =>
            have HX : Hid ((p.c, true) ∉ ownE p) := Lib.hid (by rw [ownE_mem]; simp [h5])
            clear h6 h5
            go_wp2_with fail
            go_meet
            exact ⟨by rw [decide_eq_false HX.out], rfl⟩
          | false =>
            have HX := Lib.hid ((ownE_mem p p.c false).2 ⟨rfl, .inr ⟨h5, rfl⟩⟩)
            clear h6 h5
            go_wp2_with fail
            go_meet
            exact ⟨by rw [decide_eq_true HX.out], rfl⟩
        · have y5 : ((p.kind : Int) == 5) = false := by simp; omega
          have HX : Hid ((p.c, out) ∉ ownE p) := Lib.hid (by rw [ownE_mem]; simp [h5, h6])
          clear h6 h5
          go_wp2_with fail
          go_meet
          exact ⟨by rw [decide_eq_false HX.out], rfl⟩
    · have yc : (p.c == c) = false := by simp [hc]
      have HX : Hid ((c, out) ∉ ownE p) := Lib.hid (by rw [ownE_mem]; simp [hc])
      clear hc
      go_wp2_with fail
      go_meet
      exact ⟨by rw [decide_eq_false HX.out], rfl⟩
  case rest =>
    obtain ⟨rfl, rfl⟩ := hcut
    by_cases hown : (c, out) ∈ ownE p
    · have hd : decide ((c, out) ∈ ownE p) = true := decide_eq_true hown
      have HX := Lib.hid (HEQ.out true ⟨fun _ => rfl, fun _ => .inl hown⟩)
      rw [hd]
      clear hown hd
      go_wp2
      go_ret
      exact ⟨by refine ret_bool rfl ?_; rw [HX.out], S.out.bel⟩
    have hd : decide ((c, out) ∈ ownE p) = false := decide_eq_false hown
    have HNO := Lib.hid hown
    rw [hd]
    clear hown hd
    go_upto_block 0 with fail
    go_cut [7] (fun s7 wx => Hid (UsS w wx #[.int .u8 p.kind, .int .i64 p.c, .int .i64 p.v, .int .u8 p.item, .slice p.At p.tos.length p.ct, .slice p.Ae p.e.length p.ce, .slice PG mg p.cg, .slice PA m p.cl]) ∧ Hid ((c, out) ∉ endsPs p.l))
    case first =>
      go_wp2_with fail
      go_loopw [7] (fun i wr => ∃ j : Nat, j ≤ m ∧ i = .int .i64 j ∧ Hid (UsS w wr #[.int .u8 p.kind, .int .i64 p.c, .int .i64 p.v, .int .u8 p.item, .slice p.At p.tos.length p.ct, .slice p.Ae p.e.length p.ce, .slice PG mg p.cg, .slice PA m p.cl]) ∧ Hid ((c, out) ∉ endsPs (p.l.take j))) (fun i _ => m - (intOf i).toNat)
      case atStart => exact ⟨0, Nat.zero_le _, rfl, S, Lib.hid (by rw [List.take_zero, endsPs]; simp)⟩
      case round =>
        clear S e0 e1 e2 e3 e4 e5 e6 e7
        obtain ⟨j, hj, rfl, S, HST⟩ := hrel
        have x1 := S.out.pb
        have e0 := x1.cell 0
        have e1 := x1.cell 1
        have e2 := x1.cell 2
        have e3 := x1.cell 3
        have e4 := x1.cell 4
        have e5 := x1.cell 5
        have e6 := x1.cell 6
        have e7 := x1.cell 7
        simp at e0 e1 e2 e3 e4 e5 e6 e7
        clear x1
        by_cases hlt : j < m
        · have hltI : (j : Int) < m := by omega
          have hin := HW.out wr S.out.bel
          obtain ⟨b, off, x, hA, hb, hx, hmx, c0, c1, c2, c3, c4, c5, c6, c7⟩ := kps_at hin.1.one.2.2.2.2 rfl (k := j) (by rw [HM.out]; exact hlt)
          have hbw : b < wr.heap.size := Nat.lt_of_lt_of_le hb hin.2
          obtain rfl : PA = some ⟨b, off, none⟩ := HPA.out.symm.trans hA
          have HC := Lib.hid (HIL.out x hmx c out B wr (hin.1.part hmx) hin.2)
          have HSN := Lib.hid (endsPs_snoc hx)
          have HMX := Lib.hid hmx
          simp only [KP.cells] at HC
          clear hx hmx hA hin
          by_cases hxe : (c, out) ∈ endsP x
          · have hd : decide ((c, out) ∈ endsP x) = true := decide_eq_true hxe
            rw [hd] at HC
            have HX := Lib.hid (HEQ.out true ⟨fun _ => rfl, fun _ => .inr (.inl (endsPs_mem.2 ⟨x, HMX.out, hxe⟩))⟩)
            clear hxe hd
            go_wp2_with (first
              | (go_at_call 39; (with_reducible refine (HC.out).mono ?_); rintro e1 w3 ⟨rfl, hb3⟩))
            go_ret
            exact ⟨by refine ret_bool rfl ?_; rw [HX.out], (S.out.call hb3).bel⟩
          · have hd : decide ((c, out) ∈ endsP x) = false := decide_eq_false hxe
            rw [hd] at HC
            have HN : Hid ((c, out) ∉ endsPs (p.l.take (j + 1))) := Lib.hid (by rw [HSN.out, List.mem_append]; exact fun h => h.elim HST.out hxe)
            clear hxe hd
            go_wp2_with (first
              | (go_at_call 39; (with_reducible refine (HC.out).mono ?_); rintro e1 w3 ⟨rfl, hb3⟩))
            have S3 := Lib.hid (S.out.call hb3)
            clear hb3
            go_roundw
            case rel => exact ⟨j + 1, by omega, by go_num, S3, HN⟩
            case measure => simp [intOf]; omega
        · have hltI : ¬ (j : Int) < m := by omega
          obtain rfl : m = j := by omega
          have htk : p.l.take m = p.l := List.take_of_length_le (by rw [HM.out]; omega)
          have hst := HST.out
          rw [htk] at hst
          have HX := Lib.hid hst
          clear htk hst
          go_wp2_with fail
          go_meet
          exact ⟨S, HX⟩
    case rest =>
      clear S e0 e1 e2 e3 e4 e5 e6 e7
      obtain ⟨S, HNL⟩ := hcut
      have x1 := S.out.pb
      have e0 := x1.cell 0
      have e1 := x1.cell 1
      have e2 := x1.cell 2
      have e3 := x1.cell 3
      have e4 := x1.cell 4
      have e5 := x1.cell 5
      have e6 := x1.cell 6
      have e7 := x1.cell 7
      simp at e0 e1 e2 e3 e4 e5 e6 e7
      clear x1 HIL
      go_wp2_with fail
      go_loopw [8] (fun i wr => ∃ j2 : Nat, j2 ≤ mg ∧ i = .int .i64 j2 ∧ Hid (UsS w wr #[.int .u8 p.kind, .int .i64 p.c, .int .i64 p.v, .int .u8 p.item, .slice p.At p.tos.length p.ct, .slice p.Ae p.e.length p.ce, .slice PG mg p.cg, .slice PA m p.cl]) ∧ Hid ((c, out) ∉ endsGs (p.g.take j2))) (fun i _ => mg - (intOf i).toNat)
      case atStart => exact ⟨0, Nat.zero_le _, rfl, S, Lib.hid (by rw [List.take_zero, endsGs]; simp)⟩
      case round =>
        clear S e0 e1 e2 e3 e4 e5 e6 e7
        obtain ⟨j2, hj2, rfl, S, HST⟩ := hrel
        have x1 := S.out.pb
        have e0 := x1.cell 0
        have e1 := x1.cell 1
        have e2 := x1.cell 2
        have e3 := x1.cell 3
        have e4 := x1.cell 4
        have e5 := x1.cell 5
        have e6 := x1.cell 6
        have e7 := x1.cell 7
        simp at e0 e1 e2 e3 e4 e5 e6 e7
        clear x1
        by_cases hlt : j2 < mg
        · have hltI : (j2 : Int) < mg := by omega
          have hin := HW.out wr S.out.bel
          obtain ⟨b, off, g, hA, hb, hx, hmx, hG⟩ := kgs_at hin.1.one.2.2.2.1.1 rfl (k := j2) (by rw [HMG.out]; exact hlt)
          have hbw : b < wr.heap.size := Nat.lt_of_lt_of_le hb hin.2
          have HG := Lib.hid hG
          obtain rfl : PG = some ⟨b, off, none⟩ := HPG.out.symm.trans hA
          obtain ⟨qq, hq⟩ := HBD.out g hmx
          have HQ := Lib.hid hq
          have HGE : Hid (∀ y, y ∈ endsG g ↔ (g.kind = 3 ∧ y = (g.c, false)) ∨ y ∈ endsP qq) := Lib.hid (by
            intro y
            have h : endsG g = (if g.kind = 3 then [(g.c, false)] else []) ++ endsP qq := by rw [endsG_eq, hq]
            rw [h, List.mem_append]
            by_cases h3 : g.kind = 3
            · simp [h3]
            · simp [h3])
          have HMX := Lib.hid hmx
          have S2 := Lib.hid (S.out.call ((Below.refl wr.heap.size wr).alloc (Nat.le_refl _) (.cells g.flat 103)))
          have bx := Blk.new wr 103 g.flat
          have HB := Lib.hid bx
          have HSN := Lib.hid (endsGs_snoc hx)
          clear bx hx hmx hG hA hin hq
          go_upto_region 12 with (first
            | (refine wpList_guard_load rfl _ rfl (b := b) (o := off + j2 * 18) rfl HG.out ?_)
            | (refine wpList_guard_store rfl _ _ rfl (w := wr) (g := g) rfl rfl ?_))
          generalize wr.alloc _ = w2 at *
          have bx := HB.out
          clear e0 e1 e2 e3 e4 e5 e6 e7 S HG
          have d0 := bx.cell 0
          have d7 := bx.cell 7
          have d17 := bx.cell 17
          simp [KG.flat] at d0 d7 d17
          clear bx
          have hin2 := HW.out w2 S2.out.bel
          obtain ⟨b2, off2, x, hA2, hb2, hx2, hmx2, c0, c1, c2, c3, c4, c5, c6, c7⟩ := kps_at (hin2.1.one.2.2.2.1.2 g HMX.out).2.2.2.2 rfl (k := 0) (by rw [HQ.out]; simp)
          have hq := HQ.out
          have hxq : x = qq := by rw [hq] at hx2; simpa using hx2.symm
          subst hxq
          have hbw2 : b2 < w2.heap.size := Nat.lt_of_lt_of_le hb2 hin2.2
          rw [hq] at d17
          rw [hA2] at d17
          rw [Nat.zero_mul, Nat.add_zero] at c0 c1 c2 c3 c4 c5 c6 c7
          simp only [List.length_singleton] at d17
          have HC := Lib.hid (HIG.out g HMX.out x hmx2 c out B w2 (hin2.1.guard HMX.out hmx2) hin2.2)
          simp only [KP.cells] at HC
          clear hq hx2 hmx2 hA2 hin2 HQ
          simp only [Act.put]
          go_cut [79] (fun s79 wx => s79 = .bool (decide ((c, out) ∈ endsG g)) ∧ Hid (UsS w wx #[.int .u8 p.kind, .int .i64 p.c, .int .i64 p.v, .int .u8 p.item, .slice p.At p.tos.length p.ct, .slice p.Ae p.e.length p.ce, .slice (some ⟨b, off, none⟩) mg p.cg, .slice PA m p.cl]))
          case first =>
            by_cases h3 : g.kind = 3
            · have y3 : ((g.kind : Int) == 3) = true := by simp [h3]
              by_cases hcg : g.c = c
              · have yc : (g.c == c) = true := by simp [hcg]
                cases out with
                | false =>
                  have HX := Lib.hid ((HGE.out (c, false)).2 (.inl ⟨h3, by rw [hcg]⟩))
                  clear h3 hcg HC
                  go_wp2_with fail
                  go_meet
                  exact ⟨by rw [decide_eq_true HX.out], S2⟩
                | true =>
                  have HX : Hid (decide ((c, true) ∈ endsP x) = decide ((c, true) ∈ endsG g)) := Lib.hid (by rw [Bool.eq_iff_iff, decide_eq_true_eq, decide_eq_true_eq, HGE.out]; simp)
                  rw [HX.out] at HC
                  clear h3 hcg
                  go_wp2_with (first
                    | (go_at_call 39; (with_reducible refine (HC.out).mono ?_); rintro e1 w3 ⟨rfl, hb3⟩))
                  go_meet
                  exact ⟨rfl, Lib.hid (S2.out.call hb3)⟩
              · have yc : (g.c == c) = false := by simp [hcg]
                have HX : Hid (decide ((c, out) ∈ endsP x) = decide ((c, out) ∈ endsG g)) := Lib.hid (by rw [Bool.eq_iff_iff, decide_eq_true_eq, decide_eq_true_eq, HGE.out]; simp; rintro _ rfl; exact absurd rfl hcg)
                rw [HX.out] at HC
                clear h3 hcg
                go_wp2_with (first
                  | (go_at_call 39; (with_reducible refine (HC.out).mono ?_); rintro e1 w3 ⟨rfl, hb3⟩))
                go_meet
                exact ⟨rfl, Lib.hid (S2.out.call hb3)⟩
            · have y3 : ((g.kind : Int) == 3) = false := by simp; omega
              have HX : Hid (decide ((c, out) ∈ endsP x) = decide ((c, out) ∈ endsG g)) := Lib.hid (by rw [Bool.eq_iff_iff, decide_eq_true_eq, decide_eq_true_eq, HGE.out]; simp [h3])
              rw [HX.out] at HC
              clear h3
              go_wp2_with (first
                | (go_at_call 39; (with_reducible refine (HC.out).mono ?_); rintro e1 w3 ⟨rfl, hb3⟩))
              go_meet
              exact ⟨rfl, Lib.hid (S2.out.call hb3)⟩
          case rest =>
            obtain ⟨rfl, S3⟩ := hcut
            by_cases hxe : (c, out) ∈ endsG g
            · have hd : decide ((c, out) ∈ endsG g) = true := decide_eq_true hxe
              rw [hd]
              have HX := Lib.hid (HEQ.out true ⟨fun _ => rfl, fun _ => .inr (.inr (endsGs_mem.2 ⟨g, HMX.out, hxe⟩))⟩)
              clear hxe hd
              go_wp2
              go_ret
              exact ⟨by refine ret_bool rfl ?_; rw [HX.out], S3.out.bel⟩
            · have hd : decide ((c, out) ∈ endsG g) = false := decide_eq_false hxe
              rw [hd]
              have HN : Hid ((c, out) ∉ endsGs (p.g.take (j2 + 1))) := Lib.hid (by rw [HSN.out, List.mem_append]; exact fun h => h.elim HST.out hxe)
              clear hxe hd
              go_wp2
              go_roundw
              case rel => exact ⟨j2 + 1, by omega, by go_num, S3, HN⟩
              case measure => simp [intOf]; omega
        · have hltI : ¬ (j2 : Int) < mg := by omega
          obtain rfl : mg = j2 := by omega
          have htk : p.g.take mg = p.g := List.take_of_length_le (by rw [HMG.out]; omega)
          have hst := HST.out
          rw [htk] at hst
          have HX := Lib.hid (HEQ.out false ⟨fun h => by rcases h with h | h | h; exact absurd h HNO.out; exact absurd h HNL.out; exact absurd h hst, fun h => by cases h⟩)
          clear htk hst
          go_wp2
          go_ret
          exact ⟨by refine ret_bool rfl ?_; rw [HX.out], S.out.bel⟩
theorem rUses (p : KP) : p.all Bodies → UsesOk p := by
  induction p using KP.ind with
  | h p ihg ihl =>
    intro h
    rw [KP.all_iff] at h
    obtain ⟨h1, h2, h3⟩ := h
    exact rUses1 p h1 (fun x hx => ihl x hx (h3 x hx)) (fun g hg x hx => ihg g hg x hx (h2 g hg x hx))
end Go.Proofs.Ytekamebpjjkifaa

/- A range over a function whose body may leave the loop and writes into one block that is none of cells (a map): one law. -/
namespace Go.Proofs.Ytekamebpjjkifaa
open Go.RowKit
set_option linter.unusedVariables false
set_option linter.unusedSimpArgs false

/-- Blocks that are none of cells lie as they lay, but for m. -/
structure KeepsBut (m : Nat) (W W' : World) : Prop where
  size : W.heap.size ≤ W'.heap.size
  same : ∀ (k : Nat) (o : Obj), k ≠ m → W.heap[k]? = some o → o.isCells = false → W'.heap[k]? = some o
theorem KeepsBut.of {m : Nat} {W W' : World} (h : KeepsOthers W W') : KeepsBut m W W' := ⟨h.size, fun k o _ hk ho => h.same k o hk ho⟩
theorem KeepsBut.refl (m : Nat) (W : World) : KeepsBut m W W := .of (.refl W)
theorem KeepsBut.trans {m : Nat} {A B C : World} (h : KeepsBut m A B) (k : KeepsBut m B C) : KeepsBut m A C :=
  ⟨Nat.le_trans h.size k.size, fun i o hn hi ho => k.same i o hn (h.same i o hn hi ho) ho⟩
theorem KeepsBut.grown {m : Nat} {W W' : World} (hg : W.grownBy W' (some m)) : KeepsBut m W W' :=
  ⟨hg.size, fun k o hn hk _ => (hg.block k (Array.getElem?_eq_some_iff.1 hk).1 (fun e => hn (by injection e))).trans hk⟩
theorem KeepC.grown_map {X : Nat → Prop} {m : Nat} {W W' : World} (hg : W.grownBy W' (some m)) {o : Obj} (ho : W.heap[m]? = some o) (hc : o.isCells = false) : KeepC X W W' := by
  refine ⟨hg.size, fun k cs t f _ hk => ?_⟩
  by_cases hkm : k = m
  · subst hkm; rw [ho] at hk; injection hk with hk; subst hk; cases hc
  · exact (hg.block k (Array.getElem?_eq_some_iff.1 hk).1 (fun e => hkm (by injection e))).trans hk
def goesOnM (m : Nat) (X : Nat → Prop) (W : World) (R : World → Prop) (Rx : Code → World → Prop) : Exit → Act → World → Prop
  | .normal, _, W' => KeepC X W W' ∧ KeepsBut m W W' ∧ R W'
  | .ret, _, W' => KeepsBut m W W' ∧ Rx .ret W'
  | .exit id, _, W' => KeepsBut m W W' ∧ Rx (.exit id) W'
  | .goto t, _, W' => KeepsBut m W W' ∧ Rx (.goto t) W'
  | _, _, _ => False
/-- The marks of loops that have ended. -/
def Marks (B : Nat) (ds : List Deferred) (w : World) : Prop := (ds.map (·.target)).Pairwise (· ≠ ·) ∧ ∀ d ∈ ds, ∃ D, d = { target := .collected D, args := #[] } ∧ B ≤ D ∧ w.heap[D]? = some (.deferred (some []))
theorem Marks.nil (B : Nat) (w : World) : Marks B [] w := ⟨by simp, fun d h => by cases h⟩
theorem Marks.cons {B : Nat} {ds : List Deferred} {w : World} (h : Marks B ds w) {D : Nat} (hB : B ≤ D) (hD : w.heap[D]? = some (.deferred (some []))) (hn : ∀ d ∈ ds, d.target ≠ .collected D) : Marks B ({ target := .collected D, args := #[] } :: ds) w := by
  refine ⟨?_, fun d hd => ?_⟩
  · rw [List.map_cons, List.pairwise_cons]
    refine ⟨fun t ht => ?_, h.1⟩
    obtain ⟨d, hd, rfl⟩ := List.mem_map.1 ht
    exact fun e => hn d hd e.symm
  · rcases List.mem_cons.1 hd with rfl | hd
    · exact ⟨D, rfl, hB, hD⟩
    · exact h.2 d hd
theorem Marks.mono {B : Nat} {ds : List Deferred} {w w' : World} (h : Marks B ds w) (hk : ∀ D, B ≤ D → w.heap[D]? = some (.deferred (some [])) → w'.heap[D]? = some (.deferred (some []))) : Marks B ds w' :=
  ⟨h.1, fun d hd => by obtain ⟨D, h1, h2, h3⟩ := h.2 d hd; exact ⟨D, h1, h2, hk D h2 h3⟩⟩
theorem Marks.lt {B : Nat} {ds : List Deferred} {w : World} (h : Marks B ds w) : ∀ d ∈ ds, ∀ D, d.target = .collected D → D < w.heap.size := by
  intro d hd D hD
  obtain ⟨D', rfl, -, h3⟩ := h.2 d hd
  injection hD with hD
  subst hD
  exact (Array.getElem?_eq_some_iff.1 h3).1
/-- A function leaves over marks. -/
theorem leaves_marks {F : Fence} {n : Nat} {P : Program} {fn : Func} {tmps : Array Value} {R : Ending → World → Prop} {B : Nat} (S : World → Prop) (hS : ∀ D w, S w → B ≤ D → w.heap[D]? = some (.deferred (some [])) → S (w.putObj D (.deferred none)))
    (hend : ∀ w, S w → LeavesInM F n P fn tmps R [] .returning w) : ∀ (ds : List Deferred) (w : World), Marks B ds w → S w → LeavesInM F n P fn tmps R ds .returning w
  | [], w, _, hs => hend w hs
  | d :: ds, w, hm, hs => by
    obtain ⟨D, rfl, hB, hD⟩ := hm.2 d (by simp)
    have hp := hm.1
    rw [List.map_cons, List.pairwise_cons] at hp
    refine ⟨by simp, .inl ⟨_, _, rfl, run_takeDeferred hD, ?_⟩⟩
    refine leaves_marks S hS hend ds _ ⟨hp.2, fun d' hd' => ?_⟩ (hS D w hs hB hD)
    obtain ⟨D', rfl, hB', hD'⟩ := hm.2 d' (by simp [hd'])
    refine ⟨D', rfl, hB', ?_⟩
    have hne : D' ≠ D := by
      rintro rfl
      exact hp.1 _ (List.mem_map.2 ⟨_, hd', rfl⟩) rfl
    rw [World.putObj_heap_other hne]
    exact hD'

theorem wpIn_range_untilM {P : Program} {F : Fence} {n : Nat} {α : Type} {g : Operand} {ps : Array Tmp} {assign body : Code} {Q : Exit → Act → World → Prop} {a : Act} {w : World}
    {m : Nat} (hm : m < w.heap.size) (hro : F.round = none) (hdp : F.depth = none) {gf : Nat} {lb : Array Value} (hg : a.eval g = .func (.func gf) #[] lb) (hFg : F.fn gf) (eg : ∀ args w, (callFunc gf args).run P w = .ok (.enter gf args) w)
    {encs : α → Array Value} {X : Nat → Prop} {D : World → Prop} {xs : List α} {w0 : World} (hseq : SeqUntilD F (n - 1) P gf lb encs X D xs w0) (hb0 : Below w0.heap.size w0 w) (hps : ∀ x, (encs x).size = ps.size)
    (I : List α → World → Prop) (Ix : Code → List α → World → Prop) (hI : Deep w.heap.size I) (hIx : ∀ c, Deep w.heap.size (Ix c)) (hID : ∀ pre W, I pre W → D W) (h0 : I [] w)
    (hround : ∀ (l : Nat) (pre : List α) (x : α) (r : List α) (W : World), I pre W → xs = pre ++ x :: r → w.heap.size + 2 ≤ W.heap.size →
      assign.wpIn (F.inRound l) (n - 1 - 1) P (Exit.then (fun a₁ W1 => KeepC X W W1 ∧ KeepsBut m W W1 ∧
        ∀ W2, W1.grownBy W2 (some l) → (w.heap.size ≤ l ∧ l < w.heap.size + 2) → body.wpIn (F.inRound l) (n - 1 - 1) P (goesOnM m X W2 (I (pre ++ [x])) (fun c => Ix c (pre ++ [x]))) a₁ W2) (fun _ _ _ => False))
        { tmps := (ps.zip (encs x)).foldl (fun t (p, v) => t.setIfInBounds p v) a.tmps, defers := [] } W)
    (hdone : ∀ (D : Nat) (W : World), I xs W → W.heap[D]? = some (.deferred (some [])) → w.heap.size ≤ D → Q .normal { a with defers := { target := .collected D, args := #[] } :: a.defers } W)
    (hstop : ∀ (D : Nat) (c : Code) (pre : List α) (x : α) (r : List α) (W : World), xs = pre ++ x :: r → Ix c (pre ++ [x]) W → W.heap[D]? = some (.deferred (some [])) → w.heap.size ≤ D → c.wpIn F n P Q { a with defers := { target := .collected D, args := #[] } :: a.defers } W) :
    (Code.rangeFunc g ps assign body).wpIn F n P Q a w := by
  refine wpIn_rangeFunc ?_
  intro fn hfn
  rw [hro]
  obtain ⟨rec, hrec⟩ : ∃ rec : LoopState → Option Code → Loop, rec = fun st pe => { state := st, pending := pe, fn, tmps := a.tmps, params := ps, assign, body, defers := w.heap.size } := ⟨_, rfl⟩
  obtain ⟨W1, hW1⟩ : ∃ W1, (w.alloc (.deferred (some []))).alloc (.loop (rec .ready none)) = W1 := ⟨_, rfl⟩
  have hsz : W1.heap.size = w.heap.size + 2 := by rw [← hW1]; simp
  have hL1 : W1.heap[w.heap.size + 1]? = some (.loop (rec .ready none)) := by
    rw [← hW1]; have := World.alloc_heap_new (w.alloc (.deferred (some []))) (.loop (rec .ready none)); rwa [World.size_alloc] at this
  have hK1 : W1.heap[w.heap.size]? = some (.deferred (some [])) := by
    rw [← hW1]; exact (Below.heap_alloc _ _ _ (by simp)).trans (World.alloc_heap_new w _)
  have hI1 : I [] W1 := by
    rw [← hW1]
    exact hI _ _ _ h0 (((Below.refl _ _).alloc (Nat.le_refl _) _).alloc (by simp) _)
  have hb1 : Below w0.heap.size w0 W1 := by
    rw [← hW1]; exact hb0.trans ((((Below.refl _ w).alloc (Nat.le_refl _) _).alloc (by simp) _).mono hb0.size)
  refine ⟨w.heap.size + 1, [{ target := .collected w.heap.size, args := #[] }], W1, { target := .fn (.func gf) lb, args := #[.func (.yield (w.heap.size + 1)) #[] #[]] }, W1, gf,
    #[.func (.yield (w.heap.size + 1)) #[] #[]] ++ lb, W1, ?_, ?_, ?_, ?_, (fun h => by rw [hdp] at h; cases h), ?_⟩
  · rw [← hW1, hrec]; exact run_enterLoop_outer _ _ _ _ _
  · simp only [resolve, hg]
    simp [go_sem]
  · intro f' hf'; simp [Target.leads] at hf'; subst hf'; exact hFg
  · simp [invoke, go_sem, eg]
  · refine (hseq (w.heap.size + 1)
      (fun pre W => I pre W ∧ W.heap[w.heap.size + 1]? = some (.loop (rec .ready none)) ∧ W.heap[w.heap.size]? = some (.deferred (some [])) ∧ w.heap.size + 2 ≤ W.heap.size)
      (fun pre W => ∃ c, Ix c pre W ∧ W.heap[w.heap.size + 1]? = some (.loop (rec .done (some c))) ∧ W.heap[w.heap.size]? = some (.deferred (some [])))
      W1 hb1 ?_ ?_ (fun pre W h => hID pre W h.1) ?_ ⟨hI1, hL1, hK1, by omega⟩).mono ?_
    · rintro s A B ⟨hs, hl, hk, hz⟩ hgr
      refine ⟨hI s A B hs (hgr.mono (by omega)), ?_, ?_, Nat.le_trans hz hgr.size⟩
      · rw [hgr.block _ (by omega)]; exact hl
      · rw [hgr.block _ (by omega)]; exact hk
    · rintro s A B ⟨c, hs, hl, hk⟩ hgr
      refine ⟨c, hIx c s A B hs (hgr.mono (by omega)), ?_, ?_⟩
      · rw [hgr.block _ (by omega)]; exact hl
      · rw [hgr.block _ (by omega)]; exact hk
    · rintro pre x r W ⟨hi, hl, hk, hz⟩ hxs
      have hy := run_yield (P := P) (args := encs x) hl (by rw [hrec]; exact hps x)
      rw [hrec] at hy
      refine ⟨fn, _, assign, body, hy, roundIn_of_wpIn hfn (wpIn_mono (hround (w.heap.size + 1) pre x r W hi hxs hz) ?_)⟩
      rintro e a1 W2 hp
      cases e with
      | normal =>
        obtain ⟨hkx, hlp, hbody⟩ := hp
        have hl2 := hlp.same _ _ (by omega) hl rfl
        have hk2 := hlp.same _ _ (by omega) hk rfl
        refine ⟨_, run_beginRound hl2 (by rw [hrec]), ?_⟩
        have hl3 : (W2.putObj (w.heap.size + 1) (.loop { rec .ready none with state := .busy })).heap[w.heap.size + 1]? = some (.loop { rec .ready none with state := .busy }) := World.putObj_heap_same (Array.getElem?_eq_some_iff.1 hl2).1
        have hk3 : (W2.putObj (w.heap.size + 1) (.loop { rec .ready none with state := .busy })).heap[w.heap.size]? = some (.deferred (some [])) := (World.putObj_heap_other (by omega)).trans hk2
        have kx3 := hkx.trans (KeepC.put X W2 _ _ (.loop { rec .ready none with state := .busy }) hl2 rfl)
        have fin : ∀ (jump : Option Code) (W3 : World), KeepsBut m (W2.putObj (w.heap.size + 1) (.loop { rec .ready none with state := .busy })) W3 →
            (Instr.endRound (w.heap.size + 1) jump).run P W3 = .ok (.bool jump.isNone) (W3.putObj (w.heap.size + 1) (.loop (rec (if jump.isNone then .ready else .done) jump))) ∧
            W3.heap[w.heap.size + 1]? = some (.loop { rec .ready none with state := .busy }) ∧
            (W3.putObj (w.heap.size + 1) (.loop (rec (if jump.isNone then .ready else .done) jump))).heap[w.heap.size + 1]? = some (.loop (rec (if jump.isNone then .ready else .done) jump)) ∧
            (W3.putObj (w.heap.size + 1) (.loop (rec (if jump.isNone then .ready else .done) jump))).heap[w.heap.size]? = some (.deferred (some [])) := fun jump W3 hk4 => by
          have hl4 := hk4.same _ _ (by omega) hl3 rfl
          have := run_endRound (P := P) jump hl4
          rw [hrec] at this ⊢
          exact ⟨this, by rw [hrec] at hl4; exact hl4, World.putObj_heap_same (Array.getElem?_eq_some_iff.1 hl4).1, (World.putObj_heap_other (by omega)).trans (hk4.same _ _ (by omega) hk3 rfl)⟩
        refine wpIn_mono (hbody _ (grownBy_putObj' W2 _ _) ⟨by omega, by omega⟩) ?_
        rintro e a2 W4 hp4
        cases e with
        | normal =>
          obtain ⟨kx4, lp4, hi4⟩ := hp4
          obtain ⟨hr, hl4, hl5, hk5⟩ := fin none W4 lp4
          refine ⟨_, _, hr, .inl ⟨rfl, ⟨hI _ _ _ hi4 ((Below.refl _ _).putObj (by omega) _), hl5, hk5, ?_⟩, (kx3.trans kx4).trans (KeepC.put X W4 _ _ _ hl4 rfl)⟩⟩
          have h1 := (kx3.trans kx4).size
          simp [World.putObj] at h1 ⊢; omega
        | ret =>
          obtain ⟨lp4, hi4⟩ := hp4
          obtain ⟨hr, hl4, hl5, hk5⟩ := fin (some .ret) W4 lp4
          exact ⟨_, _, hr, .inr ⟨rfl, .ret, hIx _ _ _ _ hi4 ((Below.refl _ _).putObj (by omega) _), hl5, hk5⟩⟩
        | exit id =>
          obtain ⟨lp4, hi4⟩ := hp4
          obtain ⟨hr, hl4, hl5, hk5⟩ := fin (some (.exit id)) W4 lp4
          exact ⟨_, _, hr, .inr ⟨rfl, .exit id, hIx _ _ _ _ hi4 ((Below.refl _ _).putObj (by omega) _), hl5, hk5⟩⟩
        | goto t =>
          obtain ⟨lp4, hi4⟩ := hp4
          obtain ⟨hr, hl4, hl5, hk5⟩ := fin (some (.goto t)) W4 lp4
          exact ⟨_, _, hr, .inr ⟨rfl, .goto t, hIx _ _ _ _ hi4 ((Below.refl _ _).putObj (by omega) _), hl5, hk5⟩⟩
        | _ => exact hp4.elim
      | _ => exact hp.elim
    · rintro e W2 ⟨⟨v, rfl⟩, (⟨hi, hl, hk, hz⟩ | ⟨pre, x, r, hxs, c, hi, hl, hk⟩)⟩
      · refine ⟨none, _, by have := run_endLoop (P := P) hl (by rw [hrec]; simp); rw [hrec] at this; exact this, ?_⟩
        exact hdone _ _ (hI _ _ _ hi ((Below.refl _ _).putObj (by omega) _)) ((World.putObj_heap_other (by omega)).trans hk) (Nat.le_refl _)
      · refine ⟨some c, _, by have := run_endLoop (P := P) hl (by rw [hrec]; simp); rw [hrec] at this; exact this, ?_⟩
        exact hstop _ c pre x r _ hxs (hIx c _ _ _ hi ((Below.refl _ _).putObj (by omega) _)) ((World.putObj_heap_other (by omega)).trans hk) (Nat.le_refl _)
end Go.Proofs.Ytekamebpjjkifaa
