/- Texts that belong together, joined: what each one holds is told ahead of it. -/
import Derived.Test.YtekamebpjjkifaaHK45
import Derived.Test.YtekamebpjjkifaaHK4
/- Placings checked: Check, walked. -/
namespace Go.Proofs.Ytekamebpjjkifaa
open Go.RowKit Go.Maps
set_option linter.unusedSimpArgs false
set_option linter.unusedVariables false

/-- Between two channels. -/
structure ChL (w W : World) (k : KK) (t : TN) (bl : List (Int × Int × Int)) (l : List Plc) (A : Option Addr) (B2 r : Nat) (j : Nat) : Prop where
  s : MkS w W k t
  br : Reads W B2 3 A bl.length (tripC bl)
  hi : B2 ≤ r
  lo : w.heap.size + 2 ≤ B2
  mo : MapF Try.prog 38 4 okPt portKey W r j (tkF (tkOf (l.take j)))
  mi : MapF Try.prog 38 4 okPt portKey W (r + 1) j (tkF (tkI (l.take j)))
theorem ChL.call {w W W1 : World} {k : KK} {t : TN} {bl : List (Int × Int × Int)} {l : List Plc} {A : Option Addr} {B2 r j : Nat} (h : ChL w W k t bl l A B2 r j) (hb : Below W.heap.size W W1) : ChL w W1 k t bl l A B2 r j := by
  have hr := h.mo.lt
  have := h.hi
  exact ⟨h.s.call hb, h.br.below (hb.mono (by omega)), h.hi, h.lo, h.mo.call hb, h.mi.call hb⟩
theorem ChL.setX {w W : World} {k : KK} {t : TN} {bl : List (Int × Int × Int)} {l : List Plc} {A : Option Addr} {B2 r j : Nat} (h : ChL w W k t bl l A B2 r j) {p : Addr} (hp : r + 1 < p.block) (u : Value) : ChL w (W.setCell p u) k t bl l A B2 r j := by
  have hb : Below (r + 2) W (W.setCell p u) := (Below.refl _ W).setCell (by omega) u
  have h1 := h.hi
  have h2 := h.lo
  exact ⟨⟨h.s.bel.trans (hb.mono (by omega)), h.s.kb.below hb (by omega), h.s.tb.below hb (by omega)⟩, h.br.below (hb.mono (by omega)), h.hi, h.lo, h.mo.deep (hb.block r (by omega)), h.mi.deep (hb.block (r + 1) (by omega))⟩
theorem set5_far (W : World) (q : Nat) (v0 v1 v2 v3 v4 : Value) {a : Addr} (h : a.block ≠ q) : (((((W.setCell ⟨q, 0, none⟩ v0).setCell ⟨q, 1, none⟩ v1).setCell ⟨q, 2, none⟩ v2).setCell ⟨q, 3, none⟩ v3).setCell ⟨q, 4, none⟩ v4).cell? a = W.cell? a :=
  World.cell?_of_block (by rw [Below.heap_setCell _ _ _ _ h, Below.heap_setCell _ _ _ _ h, Below.heap_setCell _ _ _ _ h, Below.heap_setCell _ _ _ _ h, Below.heap_setCell _ _ _ _ h])
theorem set5_five (W : World) (q : Nat) (v0 v1 v2 v3 v4 : Value) {p1 p2 p3 p4 p5 : Addr} {u1 u2 u3 u4 u5 : Option Value} (h1 : p1.block ≠ q) (h2 : p2.block ≠ q) (h3 : p3.block ≠ q) (h4 : p4.block ≠ q) (h5 : p5.block ≠ q) (h : W.drew.cell? p1 = u1 ∧ W.drew.cell? p2 = u2 ∧ W.drew.cell? p3 = u3 ∧ W.drew.cell? p4 = u4 ∧ W.drew.cell? p5 = u5) :
    (((((W.setCell ⟨q, 0, none⟩ v0).setCell ⟨q, 1, none⟩ v1).setCell ⟨q, 2, none⟩ v2).setCell ⟨q, 3, none⟩ v3).setCell ⟨q, 4, none⟩ v4).drew.cell? p1 = u1 ∧ (((((W.setCell ⟨q, 0, none⟩ v0).setCell ⟨q, 1, none⟩ v1).setCell ⟨q, 2, none⟩ v2).setCell ⟨q, 3, none⟩ v3).setCell ⟨q, 4, none⟩ v4).drew.cell? p2 = u2 ∧ (((((W.setCell ⟨q, 0, none⟩ v0).setCell ⟨q, 1, none⟩ v1).setCell ⟨q, 2, none⟩ v2).setCell ⟨q, 3, none⟩ v3).setCell ⟨q, 4, none⟩ v4).drew.cell? p3 = u3 ∧ (((((W.setCell ⟨q, 0, none⟩ v0).setCell ⟨q, 1, none⟩ v1).setCell ⟨q, 2, none⟩ v2).setCell ⟨q, 3, none⟩ v3).setCell ⟨q, 4, none⟩ v4).drew.cell? p4 = u4 ∧ (((((W.setCell ⟨q, 0, none⟩ v0).setCell ⟨q, 1, none⟩ v1).setCell ⟨q, 2, none⟩ v2).setCell ⟨q, 3, none⟩ v3).setCell ⟨q, 4, none⟩ v4).drew.cell? p5 = u5 := by
  generalize hN : ((((W.setCell ⟨q, 0, none⟩ v0).setCell ⟨q, 1, none⟩ v1).setCell ⟨q, 2, none⟩ v2).setCell ⟨q, 3, none⟩ v3).setCell ⟨q, 4, none⟩ v4 = N
  have e : ∀ a : Addr, a.block ≠ q → N.cell? a = W.cell? a := fun a ha => by rw [← hN]; exact set5_far W q v0 v1 v2 v3 v4 ha
  have d : ∀ (V : World) (a : Addr), V.drew.cell? a = V.cell? a := fun V a => rfl
  simp only [d] at h ⊢
  rw [e p1 h1, e p2 h2, e p3 h3, e p4 h4, e p5 h5]
  exact h
theorem ChL.far5 {w W : World} {k : KK} {t : TN} {bl : List (Int × Int × Int)} {l : List Plc} {A : Option Addr} {B2 r j q : Nat} (h : ChL w W k t bl l A B2 r j) (hp : r + 1 < q) (v0 v1 v2 v3 v4 : Value) : ChL w (((((W.setCell ⟨q, 0, none⟩ v0).setCell ⟨q, 1, none⟩ v1).setCell ⟨q, 2, none⟩ v2).setCell ⟨q, 3, none⟩ v3).setCell ⟨q, 4, none⟩ v4) k t bl l A B2 r j :=
  (((((h.setX (p := ⟨q, 0, none⟩) hp _).setX (p := ⟨q, 1, none⟩) hp _).setX (p := ⟨q, 2, none⟩) hp _).setX (p := ⟨q, 3, none⟩) hp _).setX (p := ⟨q, 4, none⟩) hp _)
theorem Blk.far5 {W : World} {g q : Nat} {ty : TypeId} {cs : Array Value} (h : Blk W g ty cs) (hne : g ≠ q) (v0 v1 v2 v3 v4 : Value) : Blk (((((W.setCell ⟨q, 0, none⟩ v0).setCell ⟨q, 1, none⟩ v1).setCell ⟨q, 2, none⟩ v2).setCell ⟨q, 3, none⟩ v3).setCell ⟨q, 4, none⟩ v4) g ty cs :=
  (((((h.far (p := ⟨q, 0, none⟩) hne _).far (p := ⟨q, 1, none⟩) hne _).far (p := ⟨q, 2, none⟩) hne _).far (p := ⟨q, 3, none⟩) hne _).far (p := ⟨q, 4, none⟩) hne _)
set_option maxRecDepth 100000 in
set_option maxHeartbeats 8000000 in
theorem pCheck (k : KK) (t : TN) (l : List Plc) (LA : Option Addr) (lc : Nat) (B : Nat) (w : World) (hk : k.In w B) (ht : t.In w B) (hB : B ≤ w.heap.size) (hcap : k.procs.length ≤ k.cp) (htw : t.ws.length ≤ 1000000) (hl : Reads w B 5 LA l.length (plcC l)) (hlo : ∀ y ∈ l, okPt y.o ∧ okPt y.i) (hll : l.length ≤ 140737488355328) :
    Calls Try.prog 14 #[.agg k.flat, .agg t.flat, .slice LA l.length lc] w (RetV (.bool (checkQ k t l)) w) := by
  obtain ⟨W0, hW0⟩ : ∃ W, (w.alloc (.cells k.flat 34)).alloc (.cells t.flat 40) = W := ⟨_, rfl⟩
  obtain ⟨l1, l2, l3⟩ := lay2 w k.flat t.flat 34 40
  have hz0 : W0.heap.size = w.heap.size + 2 := by rw [← hW0]; simp
  rw [hW0] at l1 l2 l3
  have S : Hid (MkS w W0 k t) := Lib.hid ⟨l1, l2, l3⟩
  have HIN : Hid (∀ w1 : World, Below w.heap.size w w1 → k.In w1 B ∧ t.In w1 B ∧ B ≤ w1.heap.size) := Lib.hid fun w1 hb => ⟨hk.below (hb.mono hB), ht.below (hb.mono hB), Nat.le_trans hB hb.size⟩
  have HLR : Hid (∀ w1 : World, Below w.heap.size w w1 → Reads w1 B 5 LA l.length (plcC l)) := Lib.hid fun w1 hb => hl.below (hb.mono hB)
  have HT := Lib.hid (fun (w1 : World) (hb : Below w.heap.size w w1) => tmay t.N t.hn t.hl t.A t.ws.length t.c t.ws w1 ((HIN.out w1 hb).2.1.top (HIN.out w1 hb).2.2) htw)
  have HBT := Lib.hid (fun (w1 : World) (hb : Below w.heap.size w w1) => pBetween k B w1 (HIN.out w1 hb).1 (HIN.out w1 hb).2.2 hcap)
  have HHO := Lib.hid (fun (c : Int × Int × Int) (h1 : c.2.1 < 0 → isBr k c.2.2) (h2 : ¬ c.2.1 < 0 → c.2.2 < 0 → isBr k c.2.1) (w1 : World) (hb : Below w.heap.size w w1) => pHosted k t c h1 h2 B w1 (HIN.out w1 hb).1 (HIN.out w1 hb).2.2)
  have HNO := Lib.hid (fun (b : Int) (h1 : isBr k b) (w1 : World) (hb : Below w.heap.size w w1) => pNode' k t b h1 B w1 (HIN.out w1 hb).1 (HIN.out w1 hb).2.2)
  have HPE := Lib.hid (fun (a b : Int) (w1 : World) (hb : Below w.heap.size w w1) => tPeer t.N t.hn t.hl a b t.A t.ws.length t.c t.ws w1 ((HIN.out w1 hb).2.1.top (HIN.out w1 hb).2.2) htw)
  have HLO := Lib.hid hlo
  have HBL : Hid (mayK k = true → (betweenQ k).1 = 0 → (∀ x ∈ (betweenQ k).2, okTrip (branchesK k).length x) ∧ (betweenQ k).2.length ≤ 64) := Lib.hid fun h h0 => betweenQ_ok h h0
  have HMK : Hid ((betweenQ k).1 = 0 → mayK k = true) := Lib.hid (fun h => by
    unfold betweenQ at h
    by_cases hm : mayK k = true
    · exact hm
    · rw [if_neg hm] at h; cases h)
  have HQ : Hid (checkQ k t l = if (betweenQ k).1 = 0 ∧ mayB t.N t.ws t.hn t.hl = true ∧ l.length = (betweenQ k).2.length then checkN k t (betweenQ k).2 l l.length else false) := Lib.hid rfl
  generalize checkQ k t l = R at *
  obtain ⟨n, hn⟩ : ∃ q, l.length = q := ⟨_, rfl⟩
  have HN := Lib.hid hn
  rw [hn] at hll
  simp only [hn] at HLR HQ
  simp only [KK.flat, TN.flat, hn] at l2 l3 HT HBT HHO HNO HPE hW0 ⊢
  have e0 := l2.cell 0
  have e1 := l2.cell 1
  have e2 := l2.cell 2
  have e3 := l2.cell 3
  have e4 := l2.cell 4
  have e5 := l2.cell 5
  have e6 := l2.cell 6
  have e7 := l2.cell 7
  have e8 := l2.cell 8
  have e9 := l2.cell 9
  have e10 := l2.cell 10
  simp at e0 e1 e2 e3 e4 e5 e6 e7 e8 e9 e10
  have q0 := l3.cell 0
  have q1 := l3.cell 1
  have q2 := l3.cell 2
  have q3 := l3.cell 3
  simp at q0 q1 q2 q3
  clear l1 l2 l3 hk ht hz0 hn hl hlo
  obtain ⟨BQ, hBQ⟩ : ∃ q, betweenQ k = q := ⟨_, rfl⟩
  rw [hBQ] at HBT HQ HBL HMK
  obtain ⟨be, bl⟩ := BQ
  simp only at HQ HBL HMK
  clear hBQ
  go_enter Try.func14, Try.ntmps14
  go_upto_region 2 with (first
    | (go_at_call 8; (with_reducible refine (HBT.out _ S.out.bel).mono ?_); rintro e1 w3 ⟨hb3, A, c3, rfl, hrd3⟩))
  have S3 := Lib.hid (S.out.call hb3)
  have HRD := Lib.hid hrd3
  clear S hb3 hrd3 HBT e0 e1 e2 e3 e4 e5 e6 e7 e8 e9 e10 q0 q1 q2 q3 hW0
  have x1 := S3.out.tb
  simp only [TN.flat] at x1
  have q0 := x1.cell 0
  have q1 := x1.cell 1
  have q2 := x1.cell 2
  have q3 := x1.cell 3
  simp at q0 q1 q2 q3
  clear x1
  by_cases h0 : be = 0
  · subst h0
    have y0 : ((0 : Int) != 0) = false := rfl
    cases hmt : mayB t.N t.ws t.hn t.hl with
    | false =>
      have HX : Hid (R = false) := Lib.hid (by rw [HQ.out, if_neg (by rw [hmt]; simp)])
      rw [hmt] at HT
      clear hmt
      go_wp2_with (first
        | (go_at_call 13; (with_reducible refine (HT.out _ S3.out.bel).mono ?_); rintro e1 w4 ⟨rfl, hb4⟩))
      go_ret
      exact ⟨by refine ret_bool rfl ?_; rw [HX.out], (S3.out.call hb4).bel⟩
    | true =>
    rw [hmt] at HT
    have HTM := Lib.hid hmt
    clear hmt
    obtain ⟨m, hm⟩ : ∃ q, bl.length = q := ⟨_, rfl⟩
    have HMM := Lib.hid hm
    simp only [hm] at HRD ⊢
    by_cases hnm : n = m
    · obtain rfl := hnm
      have yn : ((n : Int) != (n : Int)) = false := by simp
      have HQ2 : Hid (R = checkN k t bl l n) := Lib.hid (by rw [HQ.out, if_pos ⟨rfl, HTM.out, hm.symm⟩])
      have HKM := Lib.hid (HMK.out rfl)
      obtain ⟨hok, hlen⟩ := HBL.out HKM.out rfl
      have HOK := Lib.hid hok
      rw [hm] at hlen
      clear HQ HBL HMK hok hm
      go_upto_region 4 with (first
        | (go_at_call 13; (with_reducible refine (HT.out _ S3.out.bel).mono ?_); rintro e1 w4 ⟨rfl, hb4⟩))
      have S4 := Lib.hid (S3.out.call hb4)
      have HRD4 := Lib.hid (HRD.out.below hb4)
      have HLW := Lib.hid (And.intro hb4.size S3.out.tb.lt)
      clear S3 HRD HT hb4 q0 q1 q2 q3
      have hmk1 : (Instr.makeMap 74 none).run Try.prog w4 = .ok (.map (some w4.heap.size)) (w4.alloc (.map #[] 0)) := run_makeMap _ _
      have hmk2 : (Instr.makeMap 74 none).run Try.prog (w4.alloc (.map #[] 0)) = .ok (.map (some (w4.heap.size + 1))) ((w4.alloc (.map #[] 0)).alloc (.map #[] 0)) := by
        have := run_makeMap (P := Try.prog) 74 (w4.alloc (.map #[] 0))
        rwa [World.size_alloc] at this
      have L0 : Hid (ChL w ((w4.alloc (.map #[] 0)).alloc (.map #[] 0)) k t bl l A w3.heap.size w4.heap.size 0) := Lib.hid (by
        have hb1 := (Below.refl w4.heap.size w4).alloc (Nat.le_refl _) (.map #[] 0)
        have hb2 := (Below.refl (w4.alloc (.map #[] 0)).heap.size (w4.alloc (.map #[] 0))).alloc (Nat.le_refl _) (.map #[] 0)
        have hb3 := hb1.trans (hb2.mono (by simp))
        refine ⟨S4.out.call hb3, by rw [HMM.out]; exact HRD4.out.below (hb3.mono HLW.out.1), HLW.out.1, by have := HLW.out.2; omega, ?_, ?_⟩
        · exact ((MapF.made w4).call hb2).congr fun y => rfl
        · have := MapF.made (P := Try.prog) (k := 38) (e := 4) (ok := okPt) (key := portKey) (w4.alloc (.map #[] 0))
          rw [World.size_alloc] at this
          exact this.congr fun y => rfl)
      obtain ⟨r, hr⟩ : ∃ q, w4.heap.size = q := ⟨_, rfl⟩
      obtain ⟨B2, hB2⟩ : ∃ q, w3.heap.size = q := ⟨_, rfl⟩
      rw [hB2] at L0
      go_upto_region 5 with fail
      clear hmk1 hmk2 hB2
      rw [hr] at L0
      clear hr S4 HRD4 HLW
      generalize World.alloc _ _ = w5 at *
      go_wp2_with fail
      go_loopw [41] (fun i W => ∃ j : Nat, j ≤ n ∧ i = .int .i64 j ∧ Hid (ChL w W k t bl l A B2 r j) ∧ Hid (checkN k t bl l j = true)) (fun i _ => n - (intOf i).toNat)
      case atStart => exact ⟨0, Nat.zero_le _, rfl, L0, Lib.hid rfl⟩
      case round =>
        clear L0
        obtain ⟨j, hj, rfl, L, HCK⟩ := hrel
        by_cases hlt : j < n
        · have hltI : (j : Int) < n := by omega
          obtain ⟨b, off, x, hA, hb, hx, c0, c1, c2⟩ := trips_at (by have := L.out.br; rw [HMM.out] at this; exact this) HMM.out hlt
          have hbw : b < wr.heap.size := Nat.lt_of_lt_of_le hb (Nat.le_of_lt (Nat.lt_of_le_of_lt L.out.hi L.out.mo.lt))
          subst hA
          obtain ⟨bb, boff, y, hLA, hbb, hyx, hym, d0, d1, d2, d3, d4⟩ := plcs_at (HLR.out wr L.out.s.bel) HN.out hlt
          have hmx : x ∈ bl := List.mem_of_getElem? hx
          have HTR := Lib.hid (HOK.out x hmx)
          have HYO := Lib.hid (HLO.out y hym)
          have HST := Lib.hid (checkN_step HCK.out hx hyx)
          have HYX := Lib.hid hyx
          have HBB : Hid (bb < w.heap.size) := Lib.hid (by omega)
          have HMF := Lib.hid (mayF HKM.out)
          have HLC : Hid (∀ W, Below w.heap.size w W → W.cell? ⟨bb, boff + j * 5, none⟩ = some (.int .i64 y.c) ∧ W.cell? ⟨bb, boff + j * 5 + 1, none⟩ = some (.int .i64 y.o.1) ∧ W.cell? ⟨bb, boff + j * 5 + 2, none⟩ = some (.int .i64 y.o.2) ∧ W.cell? ⟨bb, boff + j * 5 + 3, none⟩ = some (.int .i64 y.i.1) ∧ W.cell? ⟨bb, boff + j * 5 + 4, none⟩ = some (.int .i64 y.i.2)) := Lib.hid (fun W hW => by
            have e : ∀ o, W.cell? ⟨bb, o, none⟩ = wr.cell? ⟨bb, o, none⟩ := fun o => (hW.cell (p := ⟨bb, o, none⟩) (by show bb < w.heap.size; omega)).trans (L.out.s.bel.cell (p := ⟨bb, o, none⟩) (by show bb < w.heap.size; omega)).symm
            rw [e, e, e, e, e]
            exact ⟨d0, d1, d2, d3, d4⟩)
          have hi1 : x.2.1 < 0 → isBr k x.2.2 := fun h => by
            rcases HTR.out with ⟨h1, h2, h3⟩ | ⟨h1, h2, h3⟩ | ⟨h1, h2, h3, h4⟩
            · exact isBr_of HMF.out h2 h3
            · omega
            · omega
          have hi2 : 0 ≤ x.2.1 → x.2.2 < 0 → isBr k x.2.1 := fun h h' => by
            rcases HTR.out with ⟨h1, h2, h3⟩ | ⟨h1, h2, h3⟩ | ⟨h1, h2, h3, h4⟩
            · omega
            · exact isBr_of HMF.out h2 h3
            · omega
          have HC := Lib.hid (HHO.out x hi1 hi2)
          subst hLA
          obtain ⟨W5, hW5⟩ : ∃ W, wr.alloc (.cells #[.int .i64 x.1, .int .i64 x.2.1, .int .i64 x.2.2] 57) = W := ⟨_, rfl⟩
          have k5 : Below wr.heap.size wr W5 := by rw [← hW5]; exact (Below.refl _ _).alloc (Nat.le_refl _) _
          have bc : Blk W5 wr.heap.size 57 #[.int .i64 x.1, .int .i64 x.2.1, .int .i64 x.2.2] := by rw [← hW5]; exact Blk.new _ _ _
          have L5 := Lib.hid (L.out.call k5)
          have HBC := Lib.hid bc
          clear hmx k5 bc hi1 hi2 L hx hyx hym d0 d1 d2 d3 d4
          go_upto_region 8 with fail
          clear hW5 c0 c1 c2
          have x1 := L5.out.s.kb
          have x2 := L5.out.s.tb
          simp only [KK.flat] at x1
          simp only [TN.flat] at x2
          have x3 := HBC.out
          have e0 := x1.cell 0
          have e1 := x1.cell 1
          have e2 := x1.cell 2
          have e3 := x1.cell 3
          have e4 := x1.cell 4
          have e5 := x1.cell 5
          have e6 := x1.cell 6
          have e7 := x1.cell 7
          have e8 := x1.cell 8
          have e9 := x1.cell 9
          have e10 := x1.cell 10
          simp at e0 e1 e2 e3 e4 e5 e6 e7 e8 e9 e10
          have q0 := x2.cell 0
          have q1 := x2.cell 1
          have q2 := x2.cell 2
          have q3 := x2.cell 3
          simp at q0 q1 q2 q3
          have p0 := x3.cell 0
          have p1 := x3.cell 1
          have p2 := x3.cell 2
          simp at p0 p1 p2
          clear x1 x2 x3
          obtain ⟨HQV, hHQ⟩ : ∃ q, hostQ k t x = q := ⟨_, rfl⟩
          have HHQ := Lib.hid hHQ
          rw [hHQ] at HC
          obtain ⟨hp, his, hok⟩ := HQV
          simp only [Plc.cells] at HC
          clear hHQ
          go_upto_region 9 with (first
            | (go_at_call 24; (with_reducible refine (HC.out _ L5.out.s.bel).mono ?_); rintro e1 w6 ⟨rfl, hb6⟩))
          have ka : Below w6.heap.size w6 (w6.alloc (.cells #[.int .i64 hp.c, .int .i64 hp.o.1, .int .i64 hp.o.2, .int .i64 hp.i.1, .int .i64 hp.i.2] 56)) := (Below.refl _ _).alloc (Nat.le_refl _) _
          have L6 := Lib.hid ((L5.out.call hb6).call ka)
          have HXB : Hid (Blk (w6.alloc (.cells #[.int .i64 hp.c, .int .i64 hp.o.1, .int .i64 hp.o.2, .int .i64 hp.i.1, .int .i64 hp.i.2] 56)) w6.heap.size 56 hp.cells) := Lib.hid (Blk.new _ _ _)
          have HBC6 := Lib.hid ((HBC.out.call hb6).call ka)
          have HQX : Hid (r + 1 < w6.heap.size ∧ wr.heap.size < w6.heap.size ∧ w.heap.size + 1 < w6.heap.size) := Lib.hid ⟨Nat.lt_of_lt_of_le L5.out.mi.lt hb6.size, Nat.lt_of_lt_of_le HBC.out.lt hb6.size, Nat.lt_of_lt_of_le L5.out.s.tb.lt hb6.size⟩
          clear hb6 ka L5 HBC HC e0 e1 e2 e3 e4 e5 e6 e7 e8 e9 e10 q0 q1 q2 q3 p0 p1 p2
          generalize w6.alloc _ = w7 at *
          obtain ⟨qx, hqx⟩ : ∃ q, w6.heap.size = q := ⟨_, rfl⟩
          rw [hqx] at HXB HQX ⊢
          clear hqx
          have dl := HLC.out w7 L6.out.s.bel
          obtain ⟨d0, d1, d2, d3, d4⟩ := dl
          cases his with
          | true =>
            have HWT : Hid (wantP k t x y = (hp, hok)) := Lib.hid (by unfold wantP; rw [HHQ.out]; rfl)
            cases hok with
            | false =>
              have HX : Hid (R = false) := Lib.hid (by rw [HQ2.out]; refine checkN_false (j := j + 1) (by omega) ?_; rw [HST.out]; unfold okC; rw [HWT.out]; rfl)
              go_upto_region 13 with fail
              go_quiet (fail)
              go_wp2
              go_ret
              exact ⟨by refine ret_bool rfl ?_; rw [HX.out], (L6.out.call (below_drewN (Below.refl _ _) _)).s.bel⟩
            | true =>
              have xb0 := HXB.out.cell 0
              have xb1 := HXB.out.cell 1
              have xb2 := HXB.out.cell 2
              have xb3 := HXB.out.cell 3
              have xb4 := HXB.out.cell 4
              simp [Plc.cells] at xb0 xb1 xb2 xb3 xb4
              by_cases hy : y = hp
              · subst hy
                have hk1 : okPt y.o := HYO.out.1
                have hk2 : okPt y.i := HYO.out.2
                have hlk1 := fun q => tk_look (L6.out.call (below_drewN (Below.refl _ _) q)).mo hk1
                have hlk2 := fun q => tk_look (L6.out.call (below_drewN (Below.refl _ _) q)).mi hk2
                cases ho : tkOf (l.take j) y.o with
                | true =>
                  have HX : Hid (R = false) := Lib.hid (by rw [HQ2.out]; refine checkN_false (j := j + 1) (by omega) ?_; rw [HST.out]; unfold okC; rw [HWT.out, ho]; simp)
                  simp only [ho] at hlk1
                  clear hk1 hk2 ho
                  go_upto_region 13 with fail
                  go_quiet (fail)
                  go_wp2
                  go_ret
                  exact ⟨by refine ret_bool rfl ?_; rw [HX.out], (L6.out.call (below_drewN (Below.refl _ _) _)).s.bel⟩
                | false =>
                  simp only [ho] at hlk1
                  cases hi : tkI (l.take j) y.i with
                  | true =>
                    have HX : Hid (R = false) := Lib.hid (by rw [HQ2.out]; refine checkN_false (j := j + 1) (by omega) ?_; rw [HST.out]; unfold okC; rw [HWT.out, hi]; simp)
                    simp only [hi] at hlk2
                    clear hk1 hk2 ho hi
                    go_upto_region 13 with fail
                    go_quiet (fail)
                    go_wp2
                    go_ret
                    exact ⟨by refine ret_bool rfl ?_; rw [HX.out], (L6.out.call (below_drewN (Below.refl _ _) _)).s.bel⟩
                  | false =>
                    simp only [hi] at hlk2
                    have HNX : Hid (checkN k t bl l (j + 1) = true) := Lib.hid (by rw [HST.out]; unfold okC; rw [HWT.out]; simp only; rw [ho, hi]; simp)
                    have HTK : Hid (l.take (j + 1) = l.take j ++ [y]) := Lib.hid (by rw [List.take_add_one, HYX.out]; rfl)
                    have HK := Lib.hid (And.intro hk1 hk2)
                    clear hk1 hk2 ho hi
                    go_upto_region 13 with fail
                    go_quiet (fail)
                    have L9 := Lib.hid (L6.out.call (below_drewN (Below.refl _ _) nq))
                    have bq := HXB.out.drewN nq
                    clear hlk1 hlk2 xb0 xb1 xb2 xb3 xb4
                    go_upto_region 15 with fail
                    generalize World.drewN _ _ = wq at *
                    have xq1 := bq.cell 1
                    have xq2 := bq.cell 2
                    have xq3 := bq.cell 3
                    have xq4 := bq.cell 4
                    simp [Plc.cells] at xq1 xq2 xq3 xq4
                    obtain ⟨u1, hupd1, hm1, hg1⟩ := ((L9.out.mo).call (below_drew0 wq)).update portEnc Try.underlying74 (by unfold maxLen; omega) (plainElem_bool Try.underlying4 true) (x := y.o) HK.out.1
                    have hmi1 := ((L9.out.mi).call (below_drew0 wq)).kept hg1 (by intro e; injection e with e; omega)
                    obtain ⟨u2, hupd2, hm2, hg2⟩ := hmi1.update portEnc Try.underlying74 (by unfold maxLen; omega) (plainElem_bool Try.underlying4 true) (x := y.i) HK.out.2
                    simp only [portV] at hupd1 hupd2
                    have hqx := HQX.out
                    have b1 := bq.drew.grown hg1 (fun e => by injection e; omega)
                    have b2 := b1.grown hg2 (fun e => by injection e; omega)
                    have sq1 : wq.drew.cell? ⟨qx, 1, none⟩ = some (.int .i64 y.o.1) ∧ wq.drew.cell? ⟨qx, 2, none⟩ = some (.int .i64 y.o.2) ∧ wq.drew.cell? ⟨qx, 3, none⟩ = some (.int .i64 y.i.1) ∧ wq.drew.cell? ⟨qx, 4, none⟩ = some (.int .i64 y.i.2) := ⟨xq1, xq2, xq3, xq4⟩
                    have sq2 : u1.cell? ⟨qx, 1, none⟩ = some (.int .i64 y.o.1) ∧ u1.cell? ⟨qx, 2, none⟩ = some (.int .i64 y.o.2) ∧ u1.cell? ⟨qx, 3, none⟩ = some (.int .i64 y.i.1) ∧ u1.cell? ⟨qx, 4, none⟩ = some (.int .i64 y.i.2) := ⟨b1.cell 1, b1.cell 2, b1.cell 3, b1.cell 4⟩
                    have sq3 : u2.cell? ⟨qx, 1, none⟩ = some (.int .i64 y.o.1) ∧ u2.cell? ⟨qx, 2, none⟩ = some (.int .i64 y.o.2) ∧ u2.cell? ⟨qx, 3, none⟩ = some (.int .i64 y.i.1) ∧ u2.cell? ⟨qx, 4, none⟩ = some (.int .i64 y.i.2) := ⟨b2.cell 1, b2.cell 2, b2.cell 3, b2.cell 4⟩
                    have LN : Hid (ChL w u2 k t bl l (some ⟨b, off, none⟩) B2 r (j + 1)) := Lib.hid (by
                      obtain ⟨es1, cl1, ho1⟩ := (L9.out.mo.call (below_drew0 wq)).mapObj
                      obtain ⟨es2, cl2, ho2⟩ := hmi1.mapObj
                      have hhi := L9.out.hi
                      have hlo := L9.out.lo
                      have sA := ((L9.out.call (below_drew0 wq)).s.grown hg1 (by omega)).grown hg2 (by omega)
                      have bA := ((L9.out.call (below_drew0 wq)).br.grown_other hg1 ho1 rfl).grown_other hg2 ho2 rfl
                      refine ⟨sA, bA, hhi, hlo, ?_, ?_⟩
                      · refine (hm1.kept hg2 (by intro e; injection e with e; omega)).congr fun p => ?_
                        rw [HTK.out]
                        unfold tkF
                        rw [tkOf_snoc]
                        by_cases hq : p = y.o
                        · rw [if_pos hq, if_pos hq]; rfl
                        · rw [if_neg hq, if_neg hq]
                      · refine hm2.congr fun p => ?_
                        rw [HTK.out]
                        unfold tkF
                        rw [tkI_snoc]
                        by_cases hq : p = y.i
                        · rw [if_pos hq, if_pos hq]; rfl
                        · rw [if_neg hq, if_neg hq])
                    clear hm1 hm2 hg1 hg2 hmi1 b1 b2 bq hqx xq1 xq2 xq3 xq4
                    go_region_held3 (fun w' => w'.cell? ⟨qx, 1, none⟩ = some (.int .i64 y.o.1) ∧ w'.cell? ⟨qx, 2, none⟩ = some (.int .i64 y.o.2) ∧ w'.cell? ⟨qx, 3, none⟩ = some (.int .i64 y.i.1) ∧ w'.cell? ⟨qx, 4, none⟩ = some (.int .i64 y.i.2)) (first | exact sq1 | exact sq2 | exact sq3) (fail)
                    clear hupd1 hupd2 sq1 sq2 sq3
                    go_wp2
                    go_roundw
                    case rel => exact ⟨j + 1, by omega, by go_num, LN, HNX⟩
                    case measure => simp [intOf]; omega
              · have ye : plcEq y.c y.o.1 y.o.2 y.i.1 y.i.2 hp.c hp.o.1 hp.o.2 hp.i.1 hp.i.2 = false := by rw [plcEq_iff, decide_eq_false hy]
                have HX : Hid (R = false) := Lib.hid (by rw [HQ2.out]; refine checkN_false (j := j + 1) (by omega) ?_; rw [HST.out]; unfold okC; rw [HWT.out]; simp only; rw [decide_eq_false hy]; simp)
                clear hy
                go_upto_region 13 with fail
                go_quiet (fail)
                go_wp2
                go_ret
                exact ⟨by refine ret_bool rfl ?_; rw [HX.out], (L6.out.call (below_drewN (Below.refl _ _) _)).s.bel⟩
          | false =>
            obtain ⟨hx1, hx2, hpz⟩ := host_inner HHQ.out
            subst hpz
            have hbr1 : isBr k x.2.1 := by
              rcases HTR.out with ⟨h1, h2, h3⟩ | ⟨h1, h2, h3⟩ | ⟨h1, h2, h3, h4⟩
              · omega
              · omega
              · exact isBr_of HMF.out h1 h2
            have hbr2 : isBr k x.2.2 := by
              rcases HTR.out with ⟨h1, h2, h3⟩ | ⟨h1, h2, h3⟩ | ⟨h1, h2, h3, h4⟩
              · omega
              · omega
              · exact isBr_of HMF.out h3 h4
            have HN1 := Lib.hid (HNO.out x.2.1 hbr1)
            have HN2 := Lib.hid (HNO.out x.2.2 hbr2)
            have HP := Lib.hid (HPE.out y.o.1 y.o.2)
            have k7 : Below w7.heap.size w7 (w7.alloc (.cells #[.int .i64 0, .int .i64 0] 38)).drew := ((Below.refl w7.heap.size w7).alloc (Nat.le_refl _) _).trans ⟨rfl, rfl, rfl, Nat.le_refl _, fun _ _ => rfl⟩
            have L7d := Lib.hid (L6.out.call k7)
            have L7a := Lib.hid (L6.out.call (below_drew0 w7))
            have HXBa := Lib.hid (HXB.out.call (below_drew0 w7))
            have HBCa := Lib.hid (HBC6.out.call (below_drew0 w7))
            have hbdA : Below w.heap.size w w7.drew := L7a.out.s.bel
            have hbd : Below w.heap.size w (w7.alloc (.cells #[.int .i64 0, .int .i64 0] 38)).drew := L7d.out.s.bel
            have HXBd := Lib.hid (HXB.out.call k7)
            have HBCd := Lib.hid (HBC6.out.call k7)
            have HQ0 : Hid (Blk (w7.alloc (.cells #[.int .i64 0, .int .i64 0] 38)).drew w7.heap.size 38 #[.int .i64 0, .int .i64 0]) := Lib.hid (Blk.new _ _ _).drew
            have HQ7 : Hid (r + 1 < w7.heap.size ∧ qx < w7.heap.size ∧ wr.heap.size < w7.heap.size) := Lib.hid ⟨L6.out.mi.lt, HXB.out.lt, HBC6.out.lt⟩
            have S7d : SBel w7 (w7.alloc (.cells #[.int .i64 0, .int .i64 0] 38)).drew := (show SBel w7 (w7.alloc (.cells #[.int .i64 0, .int .i64 0] 38)) from (SBel.refl w7).alloc _)
            have x1 := L6.out.s.kb
            have x2 := L6.out.s.tb
            have x3 := HBC6.out
            simp only [KK.flat] at x1
            simp only [TN.flat] at x2
            have e0 := x1.cell 0
            have e1 := x1.cell 1
            have e2 := x1.cell 2
            have e3 := x1.cell 3
            have e4 := x1.cell 4
            have e5 := x1.cell 5
            have e6 := x1.cell 6
            have e7 := x1.cell 7
            have e8 := x1.cell 8
            have e9 := x1.cell 9
            have e10 := x1.cell 10
            simp at e0 e1 e2 e3 e4 e5 e6 e7 e8 e9 e10
            have q0 := x2.cell 0
            have q1 := x2.cell 1
            have q2 := x2.cell 2
            have q3 := x2.cell 3
            simp at q0 q1 q2 q3
            have p0 := x3.cell 0
            have p1 := x3.cell 1
            have p2 := x3.cell 2
            simp at p0 p1 p2
            have g0 : w.heap.size < w7.heap.size := x1.lt
            have g1 : w.heap.size + 1 < w7.heap.size := x2.lt
            have g2 : wr.heap.size < w7.heap.size := x3.lt
            have g3 : bb < w7.heap.size := by have := HBB.out; omega
            clear k7 x1 x2 x3 L6 HXB HBC6 hbr1 hbr2 hx1 hx2
            cases hpr : rpeerOf t.N t.ws t.hn t.hl y.o.1 y.o.2 with
            | none =>
              have HWT : Hid (wantP k t x y = (⟨x.1, y.o, (0, 0)⟩, false)) := Lib.hid (by unfold wantP; rw [HHQ.out, hpr]; rfl)
              rw [hpr] at HP
              simp only [peerV] at HP
              clear hpr
              go_upto_region 10 with fail
              go_cut [16, 17] (fun s16 s17 wx => ∃ qb : Nat, s16 = .pointer (some ⟨qb, 0, none⟩) ∧ s17 = .bool false ∧ Hid (ChL w wx k t bl l (some ⟨b, off, none⟩) B2 r j) ∧ Hid (Blk wx qx 56 plcZ.cells) ∧ Hid (Blk wx wr.heap.size 57 #[.int .i64 x.1, .int .i64 x.2.1, .int .i64 x.2.2]) ∧ Hid (Blk wx qb 38 #[.int .i64 0, .int .i64 0]) ∧ Hid (qx < qb ∧ wr.heap.size < qb))
              case first =>
                go_region_held3 (fun w' => w7.heap.size ≤ w'.heap.size ∧ ∀ b o, b < w7.heap.size → w'.cell? ⟨b, o, none⟩ = w7.cell? ⟨b, o, none⟩) (first | exact SBel.drew | exact S7d | exact SBel.drew.below hb8 | exact (SBel.drew.below hb8).alloc _ | exact S7d.below hb8 | exact ((S7d.below hb8).set (by simp) _).set (by simp) _)
                  (first
                    | (go_at_call 15; (with_reducible refine (HP.out _ hbdA).mono ?_); rintro e1 w8 ⟨rfl, hb8⟩)
                    | (go_at_call 15; (with_reducible refine (HP.out _ hbd).mono ?_); rintro e1 w8 ⟨rfl, hb8⟩
                       have bq := HQ0.out.call hb8
                       have f0 := bq.frozen 0
                       have f1 := bq.frozen 1
                       have t0 := bq.cell 0
                       have t1 := bq.cell 1
                       simp at t0 t1))
                all_goals
                  have hq7 := HQ7.out
                  clear e0 e1 e2 e3 e4 e5 e6 e7 e8 e9 e10 q0 q1 q2 q3 p0 p1 p2 d0 d1 d2 d3 d4
                  go_wp2_with fail
                  go_meet
                  first
                    | exact ⟨w8.heap.size, rfl, rfl, Lib.hid ((L7a.out.call hb8).call ((Below.refl _ _).alloc (Nat.le_refl _) _)), Lib.hid ((HXBa.out.call hb8).alloc _), Lib.hid ((HBCa.out.call hb8).alloc _), Lib.hid (Blk.new _ _ _), Lib.hid ⟨Nat.lt_of_lt_of_le HXBa.out.lt hb8.size, Nat.lt_of_lt_of_le HBCa.out.lt hb8.size⟩⟩
                    | exact ⟨w7.heap.size, rfl, rfl, Lib.hid (((L7d.out.call hb8).setX (p := ⟨w7.heap.size, 0, none⟩) (by simp; omega) (.int .i64 0)).setX (p := ⟨w7.heap.size, 1, none⟩) (by simp; omega) (.int .i64 0)), Lib.hid (((HXBd.out.call hb8).far (p := ⟨w7.heap.size, 0, none⟩) (by simp; omega) (.int .i64 0)).far (p := ⟨w7.heap.size, 1, none⟩) (by simp; omega) (.int .i64 0)), Lib.hid (((HBCd.out.call hb8).far (p := ⟨w7.heap.size, 0, none⟩) (by simp; omega) (.int .i64 0)).far (p := ⟨w7.heap.size, 1, none⟩) (by simp; omega) (.int .i64 0)), Lib.hid ((bq.set_ 0 _).set_ 1 _), Lib.hid ⟨hq7.2.1, hq7.2.2⟩⟩
              case rest =>
              clear HP hbd hbdA S7d HQ0 HQ7 e0 e1 e2 e3 e4 e5 e6 e7 e8 e9 e10 q0 q1 q2 q3 p0 p1 p2 d0 d1 d2 d3 d4 L7d HXBd HBCd L7a HXBa HBCa g0 g1 g2 g3
              obtain ⟨qb, rfl, rfl, L9, HXB9, HBC9, HQB, HQ8⟩ := hcut
              obtain ⟨w9, rfl⟩ : ∃ q, q = wc := ⟨_, rfl⟩
              go_upto_region 11 with fail
              have x0 : w9.drew.cell? ⟨wr.heap.size, 0, none⟩ = some (.int .i64 x.1) := by have := HBC9.out.drew.cell 0; simpa using this
              obtain ⟨d0, d1, d2, d3, d4⟩ := HLC.out w9.drew (L9.out.call (below_drew0 _)).s.bel
              have z0 : w9.drew.cell? ⟨qb, 0, none⟩ = some (.int .i64 0) := by have := HQB.out.drew.cell 0; simpa using this
              have z1 : w9.drew.cell? ⟨qb, 1, none⟩ = some (.int .i64 0) := by have := HQB.out.drew.cell 1; simpa using this
              have f0 : w9.drew.frozen? ⟨qx, 0, none⟩ = false := HXB9.out.drew.frozen 0
              have h0 := HXB9.out.frozen 0
              have f1 : w9.drew.frozen? ⟨qx, 1, none⟩ = false := HXB9.out.drew.frozen 1
              have h1 := HXB9.out.frozen 1
              have f2 : w9.drew.frozen? ⟨qx, 2, none⟩ = false := HXB9.out.drew.frozen 2
              have h2 := HXB9.out.frozen 2
              have f3 : w9.drew.frozen? ⟨qx, 3, none⟩ = false := HXB9.out.drew.frozen 3
              have h3 := HXB9.out.frozen 3
              have f4 : w9.drew.frozen? ⟨qx, 4, none⟩ = false := HXB9.out.drew.frozen 4
              have h4 := HXB9.out.frozen 4
              have t0 := HXB9.out.cell 0
              have t1 := HXB9.out.cell 1
              have t2 := HXB9.out.cell 2
              have t3 := HXB9.out.cell 3
              have t4 := HXB9.out.cell 4
              simp [Plc.cells, plcZ] at t0 t1 t2 t3 t4
              have v0 : w9.drew.cell? ⟨qx, 0, none⟩ = some (.int .i64 0) := t0
              have v1 : w9.drew.cell? ⟨qx, 1, none⟩ = some (.int .i64 0) := t1
              have v2 : w9.drew.cell? ⟨qx, 2, none⟩ = some (.int .i64 0) := t2
              have v3 : w9.drew.cell? ⟨qx, 3, none⟩ = some (.int .i64 0) := t3
              have v4 : w9.drew.cell? ⟨qx, 4, none⟩ = some (.int .i64 0) := t4
              have hnq := HQX.out
              have hn8 := HQ8.out.1
              have hbbw := HBB.out
              have S11 : w9.drew.cell? ⟨wr.heap.size, 0, none⟩ = some (.int .i64 x.1) ∧ w9.drew.cell? ⟨bb, boff + j * 5 + 1, none⟩ = some (.int .i64 y.o.1) ∧ w9.drew.cell? ⟨bb, boff + j * 5 + 2, none⟩ = some (.int .i64 y.o.2) ∧ w9.drew.cell? ⟨qb, 0, none⟩ = some (.int .i64 0) ∧ w9.drew.cell? ⟨qb, 1, none⟩ = some (.int .i64 0) := ⟨x0, d1, d2, z0, z1⟩
              have S11s := set5_five w9 qx (.int .i64 x.1) (.int .i64 y.o.1) (.int .i64 y.o.2) (.int .i64 0) (.int .i64 0) (p1 := ⟨wr.heap.size, 0, none⟩) (p2 := ⟨bb, boff + j * 5 + 1, none⟩) (p3 := ⟨bb, boff + j * 5 + 2, none⟩) (p4 := ⟨qb, 0, none⟩) (p5 := ⟨qb, 1, none⟩) (by simp; omega) (by simp; omega) (by simp; omega) (by simp; omega) (by simp; omega) S11
              go_region_held3 (fun w' => w'.cell? ⟨wr.heap.size, 0, none⟩ = some (.int .i64 x.1) ∧ w'.cell? ⟨bb, boff + j * 5 + 1, none⟩ = some (.int .i64 y.o.1) ∧ w'.cell? ⟨bb, boff + j * 5 + 2, none⟩ = some (.int .i64 y.o.2) ∧ w'.cell? ⟨qb, 0, none⟩ = some (.int .i64 0) ∧ w'.cell? ⟨qb, 1, none⟩ = some (.int .i64 0)) (first | with_reducible exact S11 | with_reducible exact S11s) (fail)
              have L10 := Lib.hid ((L9.out.far5 (q := qx) hnq.1 (.int .i64 x.1) (.int .i64 y.o.1) (.int .i64 y.o.2) (.int .i64 0) (.int .i64 0)).call (below_drew0 _))
              have HXB10 : Hid (Blk (((((w9.setCell ⟨qx, 0, none⟩ (.int .i64 x.1)).setCell ⟨qx, 1, none⟩ (.int .i64 y.o.1)).setCell ⟨qx, 2, none⟩ (.int .i64 y.o.2)).setCell ⟨qx, 3, none⟩ (.int .i64 0)).setCell ⟨qx, 4, none⟩ (.int .i64 0)).drew qx 56 (Plc.cells ⟨x.1, y.o, (0, 0)⟩)) := Lib.hid (((((HXB9.out.set_ 0 _).set_ 1 _).set_ 2 _).set_ 3 _).set_ 4 _).drew
              have HBC10 := Lib.hid (HBC9.out.far5 (q := qx) (by omega) (.int .i64 x.1) (.int .i64 y.o.1) (.int .i64 y.o.2) (.int .i64 0) (.int .i64 0)).drew
              have HQB10 := Lib.hid (HQB.out.far5 (q := qx) (by omega) (.int .i64 x.1) (.int .i64 y.o.1) (.int .i64 y.o.2) (.int .i64 0) (.int .i64 0)).drew
              clear x0 d0 d1 d2 d3 d4 z0 z1 f0 f1 f2 f3 f4 h0 h1 h2 h3 h4 v0 v1 v2 v3 v4 t0 t1 t2 t3 t4 hnq hn8 hbbw S11 S11s L9 HXB9 HBC9 HQB
              generalize (((((w9.setCell ⟨qx, 0, none⟩ (.int .i64 x.1)).setCell ⟨qx, 1, none⟩ (.int .i64 y.o.1)).setCell ⟨qx, 2, none⟩ (.int .i64 y.o.2)).setCell ⟨qx, 3, none⟩ (.int .i64 0)).setCell ⟨qx, 4, none⟩ (.int .i64 0)).drew = w10 at *
              have HX : Hid (R = false) := Lib.hid (by rw [HQ2.out]; refine checkN_false (j := j + 1) (by omega) ?_; rw [HST.out]; unfold okC; rw [HWT.out]; rfl)
              go_upto_region 12 with fail
              go_quiet (fail)
              have L6 := Lib.hid (L10.out.call (below_drewN (Below.refl _ _) nq))
              generalize w10.drewN nq = w11 at *
              go_upto_region 13 with fail
              go_quiet (fail)
              go_wp2
              go_ret
              exact ⟨by refine ret_bool rfl ?_; rw [HX.out], (L6.out.call (below_drewN (Below.refl _ _) _)).s.bel⟩
            | some pq =>
              obtain ⟨qq1, qq2⟩ := pq
              have HWT : Hid (wantP k t x y = (⟨x.1, y.o, (qq1, qq2)⟩, decide (y.o.1 = nodeI k t x.2.1.toNat ∧ qq1 = nodeI k t x.2.2.toNat))) := Lib.hid (by unfold wantP; rw [HHQ.out, hpr]; rfl)
              rw [hpr] at HP
              simp only [peerV] at HP
              clear hpr
              go_upto_region 10 with fail
              go_cut [16, 17] (fun s16 s17 wx => ∃ qb : Nat, s16 = .pointer (some ⟨qb, 0, none⟩) ∧ s17 = .bool true ∧ Hid (ChL w wx k t bl l (some ⟨b, off, none⟩) B2 r j) ∧ Hid (Blk wx qx 56 plcZ.cells) ∧ Hid (Blk wx wr.heap.size 57 #[.int .i64 x.1, .int .i64 x.2.1, .int .i64 x.2.2]) ∧ Hid (Blk wx qb 38 #[.int .i64 qq1, .int .i64 qq2]) ∧ Hid (qx < qb ∧ wr.heap.size < qb))
              case first =>
                go_region_held3 (fun w' => w7.heap.size ≤ w'.heap.size ∧ ∀ b o, b < w7.heap.size → w'.cell? ⟨b, o, none⟩ = w7.cell? ⟨b, o, none⟩) (first | exact SBel.drew | exact S7d | exact SBel.drew.below hb8 | exact (SBel.drew.below hb8).alloc _ | exact S7d.below hb8 | exact ((S7d.below hb8).set (by simp) _).set (by simp) _)
                  (first
                    | (go_at_call 15; (with_reducible refine (HP.out _ hbdA).mono ?_); rintro e1 w8 ⟨rfl, hb8⟩)
                    | (go_at_call 15; (with_reducible refine (HP.out _ hbd).mono ?_); rintro e1 w8 ⟨rfl, hb8⟩
                       have bq := HQ0.out.call hb8
                       have f0 := bq.frozen 0
                       have f1 := bq.frozen 1
                       have t0 := bq.cell 0
                       have t1 := bq.cell 1
                       simp at t0 t1))
                all_goals
                  have hq7 := HQ7.out
                  clear e0 e1 e2 e3 e4 e5 e6 e7 e8 e9 e10 q0 q1 q2 q3 p0 p1 p2 d0 d1 d2 d3 d4
                  go_wp2_with fail
                  go_meet
                  first
                    | exact ⟨w8.heap.size, rfl, rfl, Lib.hid ((L7a.out.call hb8).call ((Below.refl _ _).alloc (Nat.le_refl _) _)), Lib.hid ((HXBa.out.call hb8).alloc _), Lib.hid ((HBCa.out.call hb8).alloc _), Lib.hid (Blk.new _ _ _), Lib.hid ⟨Nat.lt_of_lt_of_le HXBa.out.lt hb8.size, Nat.lt_of_lt_of_le HBCa.out.lt hb8.size⟩⟩
                    | exact ⟨w7.heap.size, rfl, rfl, Lib.hid (((L7d.out.call hb8).setX (p := ⟨w7.heap.size, 0, none⟩) (by simp; omega) (.int .i64 qq1)).setX (p := ⟨w7.heap.size, 1, none⟩) (by simp; omega) (.int .i64 qq2)), Lib.hid (((HXBd.out.call hb8).far (p := ⟨w7.heap.size, 0, none⟩) (by simp; omega) (.int .i64 qq1)).far (p := ⟨w7.heap.size, 1, none⟩) (by simp; omega) (.int .i64 qq2)), Lib.hid (((HBCd.out.call hb8).far (p := ⟨w7.heap.size, 0, none⟩) (by simp; omega) (.int .i64 qq1)).far (p := ⟨w7.heap.size, 1, none⟩) (by simp; omega) (.int .i64 qq2)), Lib.hid ((bq.set_ 0 _).set_ 1 _), Lib.hid ⟨hq7.2.1, hq7.2.2⟩⟩
              case rest =>
              clear HP hbd hbdA S7d HQ0 HQ7 e0 e1 e2 e3 e4 e5 e6 e7 e8 e9 e10 q0 q1 q2 q3 p0 p1 p2 d0 d1 d2 d3 d4 L7d HXBd HBCd L7a HXBa HBCa g0 g1 g2 g3
              obtain ⟨qb, rfl, rfl, L9, HXB9, HBC9, HQB, HQ8⟩ := hcut
              obtain ⟨w9, rfl⟩ : ∃ q, q = wc := ⟨_, rfl⟩
              go_upto_region 11 with fail
              have x0 : w9.drew.cell? ⟨wr.heap.size, 0, none⟩ = some (.int .i64 x.1) := by have := HBC9.out.drew.cell 0; simpa using this
              obtain ⟨d0, d1, d2, d3, d4⟩ := HLC.out w9.drew (L9.out.call (below_drew0 _)).s.bel
              have z0 : w9.drew.cell? ⟨qb, 0, none⟩ = some (.int .i64 qq1) := by have := HQB.out.drew.cell 0; simpa using this
              have z1 : w9.drew.cell? ⟨qb, 1, none⟩ = some (.int .i64 qq2) := by have := HQB.out.drew.cell 1; simpa using this
              have f0 : w9.drew.frozen? ⟨qx, 0, none⟩ = false := HXB9.out.drew.frozen 0
              have h0 := HXB9.out.frozen 0
              have f1 : w9.drew.frozen? ⟨qx, 1, none⟩ = false := HXB9.out.drew.frozen 1
              have h1 := HXB9.out.frozen 1
              have f2 : w9.drew.frozen? ⟨qx, 2, none⟩ = false := HXB9.out.drew.frozen 2
              have h2 := HXB9.out.frozen 2
              have f3 : w9.drew.frozen? ⟨qx, 3, none⟩ = false := HXB9.out.drew.frozen 3
              have h3 := HXB9.out.frozen 3
              have f4 : w9.drew.frozen? ⟨qx, 4, none⟩ = false := HXB9.out.drew.frozen 4
              have h4 := HXB9.out.frozen 4
              have t0 := HXB9.out.cell 0
              have t1 := HXB9.out.cell 1
              have t2 := HXB9.out.cell 2
              have t3 := HXB9.out.cell 3
              have t4 := HXB9.out.cell 4
              simp [Plc.cells, plcZ] at t0 t1 t2 t3 t4
              have v0 : w9.drew.cell? ⟨qx, 0, none⟩ = some (.int .i64 0) := t0
              have v1 : w9.drew.cell? ⟨qx, 1, none⟩ = some (.int .i64 0) := t1
              have v2 : w9.drew.cell? ⟨qx, 2, none⟩ = some (.int .i64 0) := t2
              have v3 : w9.drew.cell? ⟨qx, 3, none⟩ = some (.int .i64 0) := t3
              have v4 : w9.drew.cell? ⟨qx, 4, none⟩ = some (.int .i64 0) := t4
              have hnq := HQX.out
              have hn8 := HQ8.out.1
              have hbbw := HBB.out
              have S11 : w9.drew.cell? ⟨wr.heap.size, 0, none⟩ = some (.int .i64 x.1) ∧ w9.drew.cell? ⟨bb, boff + j * 5 + 1, none⟩ = some (.int .i64 y.o.1) ∧ w9.drew.cell? ⟨bb, boff + j * 5 + 2, none⟩ = some (.int .i64 y.o.2) ∧ w9.drew.cell? ⟨qb, 0, none⟩ = some (.int .i64 qq1) ∧ w9.drew.cell? ⟨qb, 1, none⟩ = some (.int .i64 qq2) := ⟨x0, d1, d2, z0, z1⟩
              have S11s := set5_five w9 qx (.int .i64 x.1) (.int .i64 y.o.1) (.int .i64 y.o.2) (.int .i64 qq1) (.int .i64 qq2) (p1 := ⟨wr.heap.size, 0, none⟩) (p2 := ⟨bb, boff + j * 5 + 1, none⟩) (p3 := ⟨bb, boff + j * 5 + 2, none⟩) (p4 := ⟨qb, 0, none⟩) (p5 := ⟨qb, 1, none⟩) (by simp; omega) (by simp; omega) (by simp; omega) (by simp; omega) (by simp; omega) S11
              go_region_held3 (fun w' => w'.cell? ⟨wr.heap.size, 0, none⟩ = some (.int .i64 x.1) ∧ w'.cell? ⟨bb, boff + j * 5 + 1, none⟩ = some (.int .i64 y.o.1) ∧ w'.cell? ⟨bb, boff + j * 5 + 2, none⟩ = some (.int .i64 y.o.2) ∧ w'.cell? ⟨qb, 0, none⟩ = some (.int .i64 qq1) ∧ w'.cell? ⟨qb, 1, none⟩ = some (.int .i64 qq2)) (first | with_reducible exact S11 | with_reducible exact S11s) (fail)
              have L10 := Lib.hid ((L9.out.far5 (q := qx) hnq.1 (.int .i64 x.1) (.int .i64 y.o.1) (.int .i64 y.o.2) (.int .i64 qq1) (.int .i64 qq2)).call (below_drew0 _))
              have HXB10 : Hid (Blk (((((w9.setCell ⟨qx, 0, none⟩ (.int .i64 x.1)).setCell ⟨qx, 1, none⟩ (.int .i64 y.o.1)).setCell ⟨qx, 2, none⟩ (.int .i64 y.o.2)).setCell ⟨qx, 3, none⟩ (.int .i64 qq1)).setCell ⟨qx, 4, none⟩ (.int .i64 qq2)).drew qx 56 (Plc.cells ⟨x.1, y.o, (qq1, qq2)⟩)) := Lib.hid (((((HXB9.out.set_ 0 _).set_ 1 _).set_ 2 _).set_ 3 _).set_ 4 _).drew
              have HBC10 := Lib.hid (HBC9.out.far5 (q := qx) (by omega) (.int .i64 x.1) (.int .i64 y.o.1) (.int .i64 y.o.2) (.int .i64 qq1) (.int .i64 qq2)).drew
              have HQB10 := Lib.hid (HQB.out.far5 (q := qx) (by omega) (.int .i64 x.1) (.int .i64 y.o.1) (.int .i64 y.o.2) (.int .i64 qq1) (.int .i64 qq2)).drew
              clear x0 d0 d1 d2 d3 d4 z0 z1 f0 f1 f2 f3 f4 h0 h1 h2 h3 h4 v0 v1 v2 v3 v4 t0 t1 t2 t3 t4 hnq hn8 hbbw S11 S11s L9 HXB9 HBC9 HQB
              generalize (((((w9.setCell ⟨qx, 0, none⟩ (.int .i64 x.1)).setCell ⟨qx, 1, none⟩ (.int .i64 y.o.1)).setCell ⟨qx, 2, none⟩ (.int .i64 y.o.2)).setCell ⟨qx, 3, none⟩ (.int .i64 qq1)).setCell ⟨qx, 4, none⟩ (.int .i64 qq2)).drew = w10 at *
              have x1 := L10.out.s.kb
              have x2 := L10.out.s.tb
              have x3 := HBC10.out
              simp only [KK.flat] at x1
              simp only [TN.flat] at x2
              have e0 := x1.cell 0
              have e1 := x1.cell 1
              have e2 := x1.cell 2
              have e3 := x1.cell 3
              have e4 := x1.cell 4
              have e5 := x1.cell 5
              have e6 := x1.cell 6
              have e7 := x1.cell 7
              have e8 := x1.cell 8
              have e9 := x1.cell 9
              have e10 := x1.cell 10
              simp at e0 e1 e2 e3 e4 e5 e6 e7 e8 e9 e10
              have q0 := x2.cell 0
              have q1 := x2.cell 1
              have q2 := x2.cell 2
              have q3 := x2.cell 3
              simp at q0 q1 q2 q3
              have p0 := x3.cell 0
              have p1 := x3.cell 1
              have p2 := x3.cell 2
              simp at p0 p1 p2
              have z1 := HXB10.out.cell 1
              have z0 := HQB10.out.cell 0
              simp [Plc.cells] at z0 z1
              have g0 : w.heap.size < w10.heap.size := x1.lt
              have g1 : w.heap.size + 1 < w10.heap.size := x2.lt
              have g2 : wr.heap.size < w10.heap.size := x3.lt
              have g3 : qx < w10.heap.size := HXB10.out.lt
              have g4 : qb < w10.heap.size := HQB10.out.lt
              have L11 := Lib.hid (L10.out.call (below_drew0 _))
              have HXB11 := Lib.hid (HXB10.out.call (below_drew0 _))
              have hbdC : Below w.heap.size w w10.drew := L11.out.s.bel
              clear x1 x2 x3 HBC10 HQB10
              by_cases hA : y.o.1 = nodeI k t x.2.1.toNat
              · have yA : (y.o.1 == nodeI k t x.2.1.toNat) = true := by simp [hA]
                by_cases hB2 : qq1 = nodeI k t x.2.2.toNat
                · have yB : (qq1 == nodeI k t x.2.2.toNat) = true := by simp [hB2]
                  obtain ⟨yy, hyy⟩ : ∃ z : Plc, z = ⟨x.1, y.o, (qq1, qq2)⟩ := ⟨_, rfl⟩
                  have HWT2 : Hid (wantP k t x y = (yy, true)) := Lib.hid (by rw [HWT.out, decide_eq_true ⟨hA, hB2⟩, hyy])
                  rw [← hyy] at HXB11
                  clear hA hB2 hyy HWT HXB10
                  have HWT := HWT2
                  clear HWT2
                  go_upto_region 12 with fail
                  go_region_held3 (fun w' => w10.heap.size ≤ w'.heap.size ∧ ∀ b o, b < w10.heap.size → w'.cell? ⟨b, o, none⟩ = w10.cell? ⟨b, o, none⟩) (first | exact SBel.drew | exact SBel.drew.below hb8 | exact (SBel.drew.below hb8).below hb9)
                    (first
                      | (go_at_call 26; (with_reducible refine (HN1.out _ hbdC).mono ?_); rintro e1 w8 ⟨rfl, hb8⟩
                         have hbd8 := hbdC.trans (hb8.mono hbdC.size))
                      | (go_at_call 26; (with_reducible refine (HN2.out _ hbd8).mono ?_); rintro e1 w9' ⟨rfl, hb9⟩))
                  have L6 := Lib.hid ((L11.out.call hb8).call hb9)
                  have HXB := Lib.hid ((HXB11.out.call hb8).call hb9)
                  clear hb8 hb9 hbd8 hbdC L11 HXB11 L10 yA yB e0 e1 e2 e3 e4 e5 e6 e7 e8 e9 e10 q0 q1 q2 q3 p0 p1 p2 z0 z1 g0 g1 g2 g3 g4
                  obtain ⟨d0, d1, d2, d3, d4⟩ := HLC.out _ L6.out.s.bel
                  have xb0 := HXB.out.cell 0
                  have xb1 := HXB.out.cell 1
                  have xb2 := HXB.out.cell 2
                  have xb3 := HXB.out.cell 3
                  have xb4 := HXB.out.cell 4
                  simp [Plc.cells] at xb0 xb1 xb2 xb3 xb4
                  by_cases hy : y = yy
                  · subst hy
                    have hk1 : okPt y.o := HYO.out.1
                    have hk2 : okPt y.i := HYO.out.2
                    have hlk1 := fun q => tk_look (L6.out.call (below_drewN (Below.refl _ _) q)).mo hk1
                    have hlk2 := fun q => tk_look (L6.out.call (below_drewN (Below.refl _ _) q)).mi hk2
                    cases ho : tkOf (l.take j) y.o with
                    | true =>
                      have HX : Hid (R = false) := Lib.hid (by rw [HQ2.out]; refine checkN_false (j := j + 1) (by omega) ?_; rw [HST.out]; unfold okC; rw [HWT.out, ho]; simp)
                      simp only [ho] at hlk1
                      clear hk1 hk2 ho
                      go_upto_region 13 with fail
                      go_quiet (fail)
                      go_wp2
                      go_ret
                      exact ⟨by refine ret_bool rfl ?_; rw [HX.out], (L6.out.call (below_drewN (Below.refl _ _) _)).s.bel⟩
                    | false =>
                      simp only [ho] at hlk1
                      cases hi : tkI (l.take j) y.i with
                      | true =>
                        have HX : Hid (R = false) := Lib.hid (by rw [HQ2.out]; refine checkN_false (j := j + 1) (by omega) ?_; rw [HST.out]; unfold okC; rw [HWT.out, hi]; simp)
                        simp only [hi] at hlk2
                        clear hk1 hk2 ho hi
                        go_upto_region 13 with fail
                        go_quiet (fail)
                        go_wp2
                        go_ret
                        exact ⟨by refine ret_bool rfl ?_; rw [HX.out], (L6.out.call (below_drewN (Below.refl _ _) _)).s.bel⟩
                      | false =>
                        simp only [hi] at hlk2
                        have HNX : Hid (checkN k t bl l (j + 1) = true) := Lib.hid (by rw [HST.out]; unfold okC; rw [HWT.out]; simp only; rw [ho, hi]; simp)
                        have HTK : Hid (l.take (j + 1) = l.take j ++ [y]) := Lib.hid (by rw [List.take_add_one, HYX.out]; rfl)
                        have HK := Lib.hid (And.intro hk1 hk2)
                        clear hk1 hk2 ho hi
                        go_upto_region 13 with fail
                        go_quiet (fail)
                        have L9 := Lib.hid (L6.out.call (below_drewN (Below.refl _ _) nq))
                        have bq := HXB.out.drewN nq
                        clear hlk1 hlk2 xb0 xb1 xb2 xb3 xb4
                        go_upto_region 15 with fail
                        generalize World.drewN _ _ = wq at *
                        have xq1 := bq.cell 1
                        have xq2 := bq.cell 2
                        have xq3 := bq.cell 3
                        have xq4 := bq.cell 4
                        simp [Plc.cells] at xq1 xq2 xq3 xq4
                        obtain ⟨u1, hupd1, hm1, hg1⟩ := ((L9.out.mo).call (below_drew0 wq)).update portEnc Try.underlying74 (by unfold maxLen; omega) (plainElem_bool Try.underlying4 true) (x := y.o) HK.out.1
                        have hmi1 := ((L9.out.mi).call (below_drew0 wq)).kept hg1 (by intro e; injection e with e; omega)
                        obtain ⟨u2, hupd2, hm2, hg2⟩ := hmi1.update portEnc Try.underlying74 (by unfold maxLen; omega) (plainElem_bool Try.underlying4 true) (x := y.i) HK.out.2
                        simp only [portV] at hupd1 hupd2
                        have hqx := HQX.out
                        have b1 := bq.drew.grown hg1 (fun e => by injection e; omega)
                        have b2 := b1.grown hg2 (fun e => by injection e; omega)
                        have sq1 : wq.drew.cell? ⟨qx, 1, none⟩ = some (.int .i64 y.o.1) ∧ wq.drew.cell? ⟨qx, 2, none⟩ = some (.int .i64 y.o.2) ∧ wq.drew.cell? ⟨qx, 3, none⟩ = some (.int .i64 y.i.1) ∧ wq.drew.cell? ⟨qx, 4, none⟩ = some (.int .i64 y.i.2) := ⟨xq1, xq2, xq3, xq4⟩
                        have sq2 : u1.cell? ⟨qx, 1, none⟩ = some (.int .i64 y.o.1) ∧ u1.cell? ⟨qx, 2, none⟩ = some (.int .i64 y.o.2) ∧ u1.cell? ⟨qx, 3, none⟩ = some (.int .i64 y.i.1) ∧ u1.cell? ⟨qx, 4, none⟩ = some (.int .i64 y.i.2) := ⟨b1.cell 1, b1.cell 2, b1.cell 3, b1.cell 4⟩
                        have sq3 : u2.cell? ⟨qx, 1, none⟩ = some (.int .i64 y.o.1) ∧ u2.cell? ⟨qx, 2, none⟩ = some (.int .i64 y.o.2) ∧ u2.cell? ⟨qx, 3, none⟩ = some (.int .i64 y.i.1) ∧ u2.cell? ⟨qx, 4, none⟩ = some (.int .i64 y.i.2) := ⟨b2.cell 1, b2.cell 2, b2.cell 3, b2.cell 4⟩
                        have LN : Hid (ChL w u2 k t bl l (some ⟨b, off, none⟩) B2 r (j + 1)) := Lib.hid (by
                          obtain ⟨es1, cl1, ho1⟩ := (L9.out.mo.call (below_drew0 wq)).mapObj
                          obtain ⟨es2, cl2, ho2⟩ := hmi1.mapObj
                          have hhi := L9.out.hi
                          have hlo := L9.out.lo
                          have sA := ((L9.out.call (below_drew0 wq)).s.grown hg1 (by omega)).grown hg2 (by omega)
                          have bA := ((L9.out.call (below_drew0 wq)).br.grown_other hg1 ho1 rfl).grown_other hg2 ho2 rfl
                          refine ⟨sA, bA, hhi, hlo, ?_, ?_⟩
                          · refine (hm1.kept hg2 (by intro e; injection e with e; omega)).congr fun p => ?_
                            rw [HTK.out]
                            unfold tkF
                            rw [tkOf_snoc]
                            by_cases hq : p = y.o
                            · rw [if_pos hq, if_pos hq]; rfl
                            · rw [if_neg hq, if_neg hq]
                          · refine hm2.congr fun p => ?_
                            rw [HTK.out]
                            unfold tkF
                            rw [tkI_snoc]
                            by_cases hq : p = y.i
                            · rw [if_pos hq, if_pos hq]; rfl
                            · rw [if_neg hq, if_neg hq])
                        clear hm1 hm2 hg1 hg2 hmi1 b1 b2 bq hqx xq1 xq2 xq3 xq4
                        go_region_held3 (fun w' => w'.cell? ⟨qx, 1, none⟩ = some (.int .i64 y.o.1) ∧ w'.cell? ⟨qx, 2, none⟩ = some (.int .i64 y.o.2) ∧ w'.cell? ⟨qx, 3, none⟩ = some (.int .i64 y.i.1) ∧ w'.cell? ⟨qx, 4, none⟩ = some (.int .i64 y.i.2)) (first | exact sq1 | exact sq2 | exact sq3) (fail)
                        clear hupd1 hupd2 sq1 sq2 sq3
                        go_wp2
                        go_roundw
                        case rel => exact ⟨j + 1, by omega, by go_num, LN, HNX⟩
                        case measure => simp [intOf]; omega
                  · have ye : plcEq y.c y.o.1 y.o.2 y.i.1 y.i.2 yy.c yy.o.1 yy.o.2 yy.i.1 yy.i.2 = false := by rw [plcEq_iff, decide_eq_false hy]
                    have HX : Hid (R = false) := Lib.hid (by rw [HQ2.out]; refine checkN_false (j := j + 1) (by omega) ?_; rw [HST.out]; unfold okC; rw [HWT.out]; simp only; rw [decide_eq_false hy]; simp)
                    clear hy
                    go_upto_region 13 with fail
                    go_quiet (fail)
                    go_wp2
                    go_ret
                    exact ⟨by refine ret_bool rfl ?_; rw [HX.out], (L6.out.call (below_drewN (Below.refl _ _) _)).s.bel⟩
                · have yB : (qq1 == nodeI k t x.2.2.toNat) = false := by simp [hB2]
                  have HX : Hid (R = false) := Lib.hid (by rw [HQ2.out]; refine checkN_false (j := j + 1) (by omega) ?_; rw [HST.out]; unfold okC; rw [HWT.out, decide_eq_false (fun h => hB2 h.2)]; rfl)
                  clear hA hB2 HXB10
                  go_upto_region 12 with fail
                  go_region_held3 (fun w' => w10.heap.size ≤ w'.heap.size ∧ ∀ b o, b < w10.heap.size → w'.cell? ⟨b, o, none⟩ = w10.cell? ⟨b, o, none⟩) (first | exact SBel.drew | exact SBel.drew.below hb8 | exact (SBel.drew.below hb8).below hb9)
                    (first
                      | (go_at_call 26; (with_reducible refine (HN1.out _ hbdC).mono ?_); rintro e1 w8 ⟨rfl, hb8⟩
                         have hbd8 := hbdC.trans (hb8.mono hbdC.size))
                      | (go_at_call 26; (with_reducible refine (HN2.out _ hbd8).mono ?_); rintro e1 w9' ⟨rfl, hb9⟩))
                  have L6 := Lib.hid ((L11.out.call hb8).call hb9)
                  clear hb8 hb9 hbd8 hbdC L11 HXB11 L10 yA yB e0 e1 e2 e3 e4 e5 e6 e7 e8 e9 e10 q0 q1 q2 q3 p0 p1 p2 z0 z1 g0 g1 g2 g3 g4
                  go_upto_region 13 with fail
                  go_quiet (fail)
                  go_wp2
                  go_ret
                  exact ⟨by refine ret_bool rfl ?_; rw [HX.out], (L6.out.call (below_drewN (Below.refl _ _) _)).s.bel⟩
              · have yA : (y.o.1 == nodeI k t x.2.1.toNat) = false := by simp [hA]
                have HX : Hid (R = false) := Lib.hid (by rw [HQ2.out]; refine checkN_false (j := j + 1) (by omega) ?_; rw [HST.out]; unfold okC; rw [HWT.out, decide_eq_false (fun h => hA h.1)]; rfl)
                clear hA HXB10
                go_upto_region 12 with fail
                obtain ⟨ι, F, i0', h0', hFb, hcl⟩ := fam_below w10
                have e0F := fun i => ((hFb i).cell (p := ⟨w.heap.size, 0, none⟩) g0).trans e0
                have e1F := fun i => ((hFb i).cell (p := ⟨w.heap.size, 1, none⟩) g0).trans e1
                have e2F := fun i => ((hFb i).cell (p := ⟨w.heap.size, 2, none⟩) g0).trans e2
                have e3F := fun i => ((hFb i).cell (p := ⟨w.heap.size, 3, none⟩) g0).trans e3
                have e4F := fun i => ((hFb i).cell (p := ⟨w.heap.size, 4, none⟩) g0).trans e4
                have e5F := fun i => ((hFb i).cell (p := ⟨w.heap.size, 5, none⟩) g0).trans e5
                have e6F := fun i => ((hFb i).cell (p := ⟨w.heap.size, 6, none⟩) g0).trans e6
                have e7F := fun i => ((hFb i).cell (p := ⟨w.heap.size, 7, none⟩) g0).trans e7
                have e8F := fun i => ((hFb i).cell (p := ⟨w.heap.size, 8, none⟩) g0).trans e8
                have e9F := fun i => ((hFb i).cell (p := ⟨w.heap.size, 9, none⟩) g0).trans e9
                have e10F := fun i => ((hFb i).cell (p := ⟨w.heap.size, 10, none⟩) g0).trans e10
                have q0F := fun i => ((hFb i).cell (p := ⟨w.heap.size + 1, 0, none⟩) g1).trans q0
                have q1F := fun i => ((hFb i).cell (p := ⟨w.heap.size + 1, 1, none⟩) g1).trans q1
                have q2F := fun i => ((hFb i).cell (p := ⟨w.heap.size + 1, 2, none⟩) g1).trans q2
                have q3F := fun i => ((hFb i).cell (p := ⟨w.heap.size + 1, 3, none⟩) g1).trans q3
                have p0F := fun i => ((hFb i).cell (p := ⟨wr.heap.size, 0, none⟩) g2).trans p0
                have p1F := fun i => ((hFb i).cell (p := ⟨wr.heap.size, 1, none⟩) g2).trans p1
                have p2F := fun i => ((hFb i).cell (p := ⟨wr.heap.size, 2, none⟩) g2).trans p2
                have z1F := fun i => ((hFb i).cell (p := ⟨qx, 1, none⟩) g3).trans z1
                have z0F := fun i => ((hFb i).cell (p := ⟨qb, 0, none⟩) g4).trans z0
                have HBF : ∀ i, Below w.heap.size w (F i) := fun i => L10.out.s.bel.trans ((hFb i).mono L10.out.s.bel.size)
                have HNF := Lib.hid (fun i => HN1.out (F i) (HBF i))
                haveI : Nonempty ι := ⟨i0'⟩
                clear HN1 HN2 HBF hbdC L11 HXB11 e0 e1 e2 e3 e4 e5 e6 e7 e8 e9 e10 q0 q1 q2 q3 p0 p1 p2 z0 z1 g0 g1 g2 g3 g4
                refine wp_region_quiet_fam F i0' h0' (by kernel_rfl) (by kernel_rfl) ?_
                repeat (go_big_quiet_step (first | (go_at_call 26; refine (HNF.out _).mono ?_; rintro e w8 ⟨rfl, hb8⟩; exact ⟨rfl, hcl _ _ hb8⟩)))
                refine wpQuiet_nil ?_
                intro i
                have L6 := Lib.hid (L10.out.call (hFb i))
                clear hcl HNF yA h0' e0F e1F e2F e3F e4F e5F e6F e7F e8F e9F e10F q0F q1F q2F q3F p0F p1F p2F z0F z1F L10 hFb
                go_upto_region 13 with fail
                go_quiet (fail)
                go_wp2
                go_ret
                exact ⟨by refine ret_bool rfl ?_; rw [HX.out], (L6.out.call (below_drewN (Below.refl _ _) _)).s.bel⟩
        · have hltI : ¬ (j : Int) < n := by omega
          obtain rfl : n = j := by omega
          have HX : Hid (R = true) := Lib.hid (by rw [HQ2.out, HCK.out])
          go_wp2
          go_ret
          exact ⟨by refine ret_bool rfl ?_; rw [HX.out], L.out.s.bel⟩
    · have yn : ((n : Int) != (m : Int)) = true := by simp; omega
      have HX : Hid (R = false) := Lib.hid (by rw [HQ.out, if_neg (by rw [hm]; simp [hnm])])
      clear hnm hm
      go_wp2_with (first
        | (go_at_call 13; (with_reducible refine (HT.out _ S3.out.bel).mono ?_); rintro e1 w4 ⟨rfl, hb4⟩))
      go_ret
      exact ⟨by refine ret_bool rfl ?_; rw [HX.out], (S3.out.call hb4).bel⟩
  · have HX : Hid (R = false) := Lib.hid (by rw [HQ.out, if_neg (by simp [h0])])
    have y0 : (be != 0) = true := by simp [h0]
    clear HQ HBL HMK h0
    go_wp2
    go_ret
    exact ⟨by refine ret_bool rfl ?_; rw [HX.out], S3.out.bel⟩
end Go.Proofs.Ytekamebpjjkifaa
