/- Texts that belong together, joined: what each one holds is told ahead of it. -/
import Derived.Test.YtekamebpjjkifaaHK42
import Derived.OneCell
import Derived.Test.YtekamebpjjkifaaHK43
/- Placings made: Make, walked. -/
namespace Go.Proofs.Ytekamebpjjkifaa
open Go.RowKit Go.Maps
set_option linter.unusedSimpArgs false
set_option linter.unusedVariables false

def plcC (l : List Plc) : List Value := l.flatMap fun x => x.cells.toList
/-- What Make answers. -/
def RetPl (q : Int × List Plc) (w : World) (e : Ending) (w' : World) : Prop :=
  Below w.heap.size w w' ∧ ∃ (A : Option Addr) (c : Nat), e = .returned (.tuple #[.slice A q.2.length c, .int .i64 q.1]) ∧ Reads w' w'.heap.size 5 A q.2.length (plcC q.2) ∧ q.2.length ≤ c
structure MkS (w W : World) (k : KK) (t : TN) : Prop where
  bel : Below w.heap.size w W
  kb : Blk W w.heap.size 34 k.flat
  tb : Blk W (w.heap.size + 1) 40 t.flat
theorem MkS.call {w W W1 : World} {k : KK} {t : TN} (h : MkS w W k t) (hb : Below W.heap.size W W1) : MkS w W1 k t := ⟨h.bel.trans (hb.mono h.bel.size), h.kb.call hb, h.tb.call hb⟩
theorem MkS.grown {w W W1 : World} {k : KK} {t : TN} (h : MkS w W k t) {r : Nat} (hg : W.grownBy W1 (some r)) (hr : w.heap.size + 2 ≤ r) : MkS w W1 k t :=
  ⟨h.bel.grown hg h.bel.size (fun q e => by injection e; omega), h.kb.grown hg (fun e => by injection e; omega), h.tb.grown hg (fun e => by injection e; omega)⟩
/-- Between two channels. -/
structure MkL (w W : World) (k : KK) (t : TN) (l : List (Int × Int × Int)) (A : Option Addr) (B2 r j : Nat) (v : Value) (d : List Plc) : Prop where
  s : MkS w W k t
  br : Reads W B2 3 A l.length (tripC l)
  hi : B2 ≤ r
  lo : w.heap.size + 2 ≤ B2
  mp : MapF Try.prog 38 4 okPt portKey W r j (tkF (tkOf d))
  own : W.ownsRow (r + 1) 56 5 v d.length (plcC d)
  eq : makeN k t l j = some d
theorem MkL.call {w W W1 : World} {k : KK} {t : TN} {l : List (Int × Int × Int)} {A : Option Addr} {B2 r j : Nat} {v : Value} {d : List Plc} (h : MkL w W k t l A B2 r j v d) (hb : Below W.heap.size W W1) : MkL w W1 k t l A B2 r j v d := by
  have hr := h.mp.lt
  have := h.hi
  exact ⟨h.s.call hb, h.br.below (hb.mono (by omega)), h.hi, h.lo, h.mp.call hb, h.own.below hb, h.eq⟩
theorem MkL.setX {w W : World} {k : KK} {t : TN} {l : List (Int × Int × Int)} {A : Option Addr} {B2 r j : Nat} {v : Value} {d : List Plc} (h : MkL w W k t l A B2 r j v d) {p : Addr} (hp : r < p.block) (hne : v.ownBlock ≠ some p.block) (u : Value) : MkL w (W.setCell p u) k t l A B2 r j v d := by
  have hb : Below (r + 1) W (W.setCell p u) := (Below.refl _ W).setCell hp u
  have h1 := h.hi
  have h2 := h.lo
  exact ⟨⟨h.s.bel.trans (hb.mono (by omega)), h.s.kb.below hb (by omega), h.s.tb.below hb (by omega)⟩, h.br.below (hb.mono (by omega)), h.hi, h.lo, h.mp.deep (hb.block r (by omega)), ownsRow_setCell_other h.own hne u, h.eq⟩
theorem own_cap {w : World} {base e size n : Nat} {v : Value} {xs : List Value} (h : w.ownsRow base e size v n xs) : ∃ A c, v = .slice A n c ∧ n ≤ c := by
  rcases h.2 with ⟨rfl, rfl⟩ | ⟨g, cap, cur, rfl, _, _, hc, -⟩
  · exact ⟨none, 0, rfl, Nat.le_refl _⟩
  · exact ⟨_, _, rfl, hc⟩
theorem plc_info : (Try.prog.info? 56).map (fun i => (i.zero, i.size, i.bytes)) = some (some (.agg #[.int .i64 0, .int .i64 0, .int .i64 0, .int .i64 0, .int .i64 0]), 5, 40) := by kernel_rfl
set_option maxRecDepth 100000 in
set_option maxHeartbeats 8000000 in
theorem pMake (k : KK) (t : TN) (B : Nat) (w : World) (hk : k.In w B) (ht : t.In w B) (hB : B ≤ w.heap.size) (hcap : k.procs.length ≤ k.cp) (htw : t.ws.length ≤ 1000000) :
    Calls Try.prog 11 #[.agg k.flat, .agg t.flat] w (RetPl (makeQ k t) w) := by
  obtain ⟨W0, hW0⟩ : ∃ W, (w.alloc (.cells k.flat 34)).alloc (.cells t.flat 40) = W := ⟨_, rfl⟩
  obtain ⟨l1, l2, l3⟩ := lay2 w k.flat t.flat 34 40
  have hz0 : W0.heap.size = w.heap.size + 2 := by rw [← hW0]; simp
  rw [hW0] at l1 l2 l3
  have S : Hid (MkS w W0 k t) := Lib.hid ⟨l1, l2, l3⟩
  have HIN : Hid (∀ w1 : World, Below w.heap.size w w1 → k.In w1 B ∧ t.In w1 B ∧ B ≤ w1.heap.size) := Lib.hid fun w1 hb => ⟨hk.below (hb.mono hB), ht.below (hb.mono hB), Nat.le_trans hB hb.size⟩
  have HM := Lib.hid (fun (w1 : World) (hb : Below w.heap.size w w1) => kMay16 k B w1 (HIN.out w1 hb).1 (HIN.out w1 hb).2.2 hcap)
  have HT := Lib.hid (fun (w1 : World) (hb : Below w.heap.size w w1) => tmay t.N t.hn t.hl t.A t.ws.length t.c t.ws w1 ((HIN.out w1 hb).2.1.top (HIN.out w1 hb).2.2) htw)
  have HBT := Lib.hid (fun (w1 : World) (hb : Below w.heap.size w w1) => pBetween k B w1 (HIN.out w1 hb).1 (HIN.out w1 hb).2.2 hcap)
  have HHO := Lib.hid (fun (c : Int × Int × Int) (h1 : c.2.1 < 0 → isBr k c.2.2) (h2 : ¬ c.2.1 < 0 → c.2.2 < 0 → isBr k c.2.1) (w1 : World) (hb : Below w.heap.size w w1) => pHosted k t c h1 h2 B w1 (HIN.out w1 hb).1 (HIN.out w1 hb).2.2)
  have HNO := Lib.hid (fun (b : Int) (h1 : isBr k b) (w1 : World) (hb : Below w.heap.size w w1) => pNode' k t b h1 B w1 (HIN.out w1 hb).1 (HIN.out w1 hb).2.2)
  have HFR := Lib.hid (fun (tk : Pt → Bool) (b n : Nat) (fr dn : Int) (hfr : i64ok fr) (w1 : World) (hb : Below w.heap.size w w1) (hm : MapF Try.prog 38 4 okPt portKey w1 b n (tkF tk)) => pFree t htw tk b n fr dn hfr B w1 (HIN.out w1 hb).2.1 (HIN.out w1 hb).2.2 hm)
  have HQ : Hid (makeQ k t = if mayK k = true ∧ mayB t.N t.ws t.hn t.hl = true then
    (if (betweenQ k).1 = 0 then (match makeN k t (betweenQ k).2 (betweenQ k).2.length with | some d => ((0 : Int), d) | none => (400, [])) else ((betweenQ k).1, []))
  else (2, [])) := Lib.hid rfl
  generalize makeQ k t = Q at *
  have HZ0 := Lib.hid hz0
  obtain ⟨nw, hnw⟩ : ∃ q, t.ws.length = q := ⟨_, rfl⟩
  simp only [KK.flat, TN.flat] at l2 l3 HM HT HBT HHO HNO HFR hW0 ⊢
  have e0 := l2.cell 0
  have e1 := l2.cell 1
  have e2 := l2.cell 2
  have e3 := l2.cell 3
  have e4 := l2.cell 4
  have e5 := l2.cell 5
  have e6 := l2.cell 6
  have e7 := l2.cell 7
  have e8 := l2.cell 8
  have e9 := l2.cell 9
  have e10 := l2.cell 10
  simp at e0 e1 e2 e3 e4 e5 e6 e7 e8 e9 e10
  have q0 := l3.cell 0
  have q1 := l3.cell 1
  have q2 := l3.cell 2
  have q3 := l3.cell 3
  simp at q0 q1 q2 q3
  clear l1 l2 l3 hk ht hz0 hnw
  cases hm : mayK k with
  | false =>
    have HQ2 : Hid (Q = (2, [])) := Lib.hid (by rw [HQ.out, if_neg (by rw [hm]; simp)])
    rw [hm] at HM
    clear HQ HT HBT HHO HNO HFR hm
    go_enter Try.func11, Try.ntmps11
    go_wp2_with (first
      | (go_at_call 20; (with_reducible refine (HM.out _ S.out.bel).mono ?_); rintro e1 w1 ⟨rfl, hb1⟩))
    go_ret2
    obtain rfl := HQ2.out
    exact ⟨S.out.bel.trans (hb1.mono S.out.bel.size), none, 0, rfl, ⟨rfl, fun h => absurd h (by simp)⟩, Nat.le_refl _⟩
  | true =>
  cases hmt : mayB t.N t.ws t.hn t.hl with
  | false =>
    have HQ2 : Hid (Q = (2, [])) := Lib.hid (by rw [HQ.out, if_neg (by rw [hmt]; simp)])
    rw [hm] at HM
    rw [hmt] at HT
    clear HQ HBT HHO HNO HFR hm hmt
    go_enter Try.func11, Try.ntmps11
    go_wp2_with (first
      | (go_at_call 20; (with_reducible refine (HM.out _ S.out.bel).mono ?_); rintro e1 w1 ⟨rfl, hb1⟩
         have S1 := Lib.hid (S.out.call hb1)
         have x1 := S1.out.tb
         simp only [TN.flat] at x1
         have q0 := x1.cell 0
         have q1 := x1.cell 1
         have q2 := x1.cell 2
         have q3 := x1.cell 3
         simp at q0 q1 q2 q3
         clear x1)
      | (go_at_call 13; (with_reducible refine (HT.out _ S1.out.bel).mono ?_); rintro e1 w2 ⟨rfl, hb2⟩))
    go_ret2
    obtain rfl := HQ2.out
    exact ⟨S1.out.bel.trans (hb2.mono S1.out.bel.size), none, 0, rfl, ⟨rfl, fun h => absurd h (by simp)⟩, Nat.le_refl _⟩
  | true =>
  have HKM := Lib.hid hm
  have HTM := Lib.hid hmt
  have HQ1 : Hid (Q = (if (betweenQ k).1 = 0 then (match makeN k t (betweenQ k).2 (betweenQ k).2.length with | some d => ((0 : Int), d) | none => (400, [])) else ((betweenQ k).1, []))) := Lib.hid (by rw [HQ.out, if_pos ⟨hm, hmt⟩])
  rw [hm] at HM
  rw [hmt] at HT
  clear HQ hm hmt
  go_enter Try.func11, Try.ntmps11
  go_upto_region 3 with (first
    | (go_at_call 20; (with_reducible refine (HM.out _ S.out.bel).mono ?_); rintro e1 w1 ⟨rfl, hb1⟩
       have S1 := Lib.hid (S.out.call hb1)
       have x1 := S1.out.tb
       simp only [TN.flat] at x1
       have q0 := x1.cell 0
       have q1 := x1.cell 1
       have q2 := x1.cell 2
       have q3 := x1.cell 3
       simp at q0 q1 q2 q3
       clear x1)
    | (go_at_call 13; (with_reducible refine (HT.out _ S1.out.bel).mono ?_); rintro e1 w2 ⟨rfl, hb2⟩))
  have S2 := Lib.hid (S1.out.call hb2)
  clear S S1 hb1 hb2 HM HT hW0 e0 e1 e2 e3 e4 e5 e6 e7 e8 e9 e10 q0 q1 q2 q3
  have x1 := S2.out.kb
  simp only [KK.flat] at x1
  have e0 := x1.cell 0
  have e1 := x1.cell 1
  have e2 := x1.cell 2
  have e3 := x1.cell 3
  have e4 := x1.cell 4
  have e5 := x1.cell 5
  have e6 := x1.cell 6
  have e7 := x1.cell 7
  have e8 := x1.cell 8
  have e9 := x1.cell 9
  have e10 := x1.cell 10
  simp at e0 e1 e2 e3 e4 e5 e6 e7 e8 e9 e10
  clear x1
  obtain ⟨BQ, hBQ⟩ : ∃ q, betweenQ k = q := ⟨_, rfl⟩
  have HBO := Lib.hid (fun h0 => betweenQ_ok HKM.out (k := k) h0)
  rw [hBQ] at HBT HQ1 HBO
  obtain ⟨be, bl⟩ := BQ
  simp only at HQ1 HBO
  clear hBQ
  go_upto_region 4 with (first
    | (go_at_call 8; (with_reducible refine (HBT.out _ S2.out.bel).mono ?_); rintro e1 w3 ⟨hb3, A, c3, rfl, hrd3⟩))
  have S3 := Lib.hid (S2.out.call hb3)
  have HRD := Lib.hid hrd3
  clear S2 hb3 hrd3 HBT e0 e1 e2 e3 e4 e5 e6 e7 e8 e9 e10
  by_cases h0 : be = 0
  · subst h0
    have HQ2 : Hid (Q = (match makeN k t bl bl.length with | some d => ((0 : Int), d) | none => (400, []))) := Lib.hid (by rw [HQ1.out, if_pos rfl])
    obtain ⟨hok, hlen⟩ := HBO.out rfl
    have HOK := Lib.hid hok
    obtain ⟨n, hn⟩ : ∃ q, bl.length = q := ⟨_, rfl⟩
    have HN := Lib.hid hn
    rw [hn] at hlen
    simp only [hn] at HRD ⊢
    clear HQ1 HBO hok hn
    have hmk : (Instr.makeMap 74 none).run Try.prog w3 = .ok (.map (some w3.heap.size)) (w3.alloc (.map #[] 0)) := run_makeMap _ _
    have L0 : Hid (MkL w (w3.alloc (.map #[] 0)) k t bl A w3.heap.size w3.heap.size 0 (.slice none 0 0) []) := Lib.hid (by
      have hb := (Below.refl w3.heap.size w3).alloc (Nat.le_refl _) (.map #[] 0)
      refine ⟨S3.out.call hb, by rw [HN.out]; exact HRD.out.below hb, Nat.le_refl _, ?_, ?_, World.ownsRow_nil _ _ _ _, by rw [makeN]⟩
      · have h1 := S3.out.tb.lt
        omega
      · refine (MapF.made w3).congr fun y => ?_
        rfl)
    obtain ⟨r, hr⟩ : ∃ q, w3.heap.size = q := ⟨_, rfl⟩
    obtain ⟨i0, hi0, hz0, hz1, hz2⟩ := info_parts plc_info
    go_upto_region 7 with fail
    rw [hr] at L0
    clear hmk hr S3 HRD
    generalize w3.alloc _ = w4 at *
    go_wp2_with fail
    go_loopw [34, 9] (fun i v W => ∃ (j : Nat) (d : List Plc), j ≤ n ∧ i = .int .i64 j ∧ Hid (MkL w W k t bl A r r j v d)) (fun i _ _ => n - (intOf i).toNat)
    case atStart => exact ⟨0, [], Nat.zero_le _, rfl, L0⟩
    case round =>
      clear L0
      obtain ⟨j, d, hj, rfl, L⟩ := hrel
      by_cases hlt : j < n
      · have hltI : (j : Int) < n := by omega
        obtain ⟨b, off, x, hA, hb, hx, c0, c1, c2⟩ := trips_at (by have := L.out.br; rw [HN.out] at this; exact this) HN.out hlt
        have hbw : b < wr.heap.size := Nat.lt_trans hb L.out.mp.lt
        subst hA
        have hmx : x ∈ bl := List.mem_of_getElem? hx
        have HTR := Lib.hid (HOK.out x hmx)
        have HEQ := Lib.hid (makeN_step L.out.eq hx)
        have HMF := Lib.hid (mayF HKM.out)
        have hi1 : x.2.1 < 0 → isBr k x.2.2 := fun h => by
          rcases HTR.out with ⟨h1, h2, h3⟩ | ⟨h1, h2, h3⟩ | ⟨h1, h2, h3, h4⟩
          · exact isBr_of HMF.out h2 h3
          · omega
          · omega
        have hi2 : 0 ≤ x.2.1 → x.2.2 < 0 → isBr k x.2.1 := fun h h' => by
          rcases HTR.out with ⟨h1, h2, h3⟩ | ⟨h1, h2, h3⟩ | ⟨h1, h2, h3, h4⟩
          · omega
          · exact isBr_of HMF.out h2 h3
          · omega
        have HC := Lib.hid (HHO.out x hi1 hi2)
        obtain ⟨W5, hW5⟩ : ∃ W, wr.alloc (.cells #[.int .i64 x.1, .int .i64 x.2.1, .int .i64 x.2.2] 57) = W := ⟨_, rfl⟩
        have k5 : Below wr.heap.size wr W5 := by rw [← hW5]; exact (Below.refl _ _).alloc (Nat.le_refl _) _
        have bc : Blk W5 wr.heap.size 57 #[.int .i64 x.1, .int .i64 x.2.1, .int .i64 x.2.2] := by rw [← hW5]; exact Blk.new _ _ _
        have L5 := Lib.hid (L.out.call k5)
        have HBC := Lib.hid bc
        clear hmx k5 bc hi1 hi2 L
        go_upto_region 11 with fail
        clear hW5 c0 c1 c2
        have x1 := L5.out.s.kb
        have x2 := L5.out.s.tb
        simp only [KK.flat] at x1
        simp only [TN.flat] at x2
        have x3 := HBC.out
        have e0 := x1.cell 0
        have e1 := x1.cell 1
        have e2 := x1.cell 2
        have e3 := x1.cell 3
        have e4 := x1.cell 4
        have e5 := x1.cell 5
        have e6 := x1.cell 6
        have e7 := x1.cell 7
        have e8 := x1.cell 8
        have e9 := x1.cell 9
        have e10 := x1.cell 10
        simp at e0 e1 e2 e3 e4 e5 e6 e7 e8 e9 e10
        have q0 := x2.cell 0
        have q1 := x2.cell 1
        have q2 := x2.cell 2
        have q3 := x2.cell 3
        simp at q0 q1 q2 q3
        have p0 := x3.cell 0
        have p1 := x3.cell 1
        have p2 := x3.cell 2
        simp at p0 p1 p2
        clear x1 x2 x3
        obtain ⟨HQV, hHQ⟩ : ∃ q, hostQ k t x = q := ⟨_, rfl⟩
        have HHQ := Lib.hid hHQ
        rw [hHQ] at HC
        obtain ⟨hp, his, hok⟩ := HQV
        simp only [Plc.cells] at HC
        clear hHQ
        go_upto_region 12 with (first
          | (go_at_call 24; (with_reducible refine (HC.out _ L5.out.s.bel).mono ?_); rintro e1 w6 ⟨rfl, hb6⟩))
        have ka : Below w6.heap.size w6 (w6.alloc (.cells #[.int .i64 hp.c, .int .i64 hp.o.1, .int .i64 hp.o.2, .int .i64 hp.i.1, .int .i64 hp.i.2] 56)) := (Below.refl _ _).alloc (Nat.le_refl _) _
        have L6 := Lib.hid ((L5.out.call hb6).call ka)
        have HXB : Hid (Blk (w6.alloc (.cells #[.int .i64 hp.c, .int .i64 hp.o.1, .int .i64 hp.o.2, .int .i64 hp.i.1, .int .i64 hp.i.2] 56)) w6.heap.size 56 hp.cells) := Lib.hid (Blk.new _ _ _)
        have HBC6 := Lib.hid ((HBC.out.call hb6).call ka)
        have HQX : Hid (r < w6.heap.size ∧ wr.heap.size < w6.heap.size) := Lib.hid ⟨Nat.lt_of_lt_of_le L5.out.mp.lt hb6.size, Nat.lt_of_lt_of_le HBC.out.lt hb6.size⟩
        have H66 : Hid (Blk w6 w.heap.size 34 k.flat ∧ Blk w6 (w.heap.size + 1) 40 t.flat ∧ Blk w6 wr.heap.size 57 #[.int .i64 x.1, .int .i64 x.2.1, .int .i64 x.2.2]) := Lib.hid ⟨L5.out.s.kb.call hb6, L5.out.s.tb.call hb6, HBC.out.call hb6⟩
        have HOL : Hid (u9.ownBlock ≠ some w6.heap.size) := Lib.hid (fun e => by have := (L5.out.own.lt _ e).2; have := hb6.size; omega)
        clear hb6 ka L5 HBC HC e0 e1 e2 e3 e4 e5 e6 e7 e8 e9 e10 q0 q1 q2 q3 p0 p1 p2
        cases his with
        | true =>
          cases hok with
          | false =>
            have HPK : Hid (pickP k t (tkOf d) x = none) := Lib.hid (by unfold pickP; rw [HHQ.out]; rfl)
            generalize w6.alloc _ = wx at *
            have HQ4 : Hid (Q = (400, [])) := Lib.hid (by
              have h1 : makeN k t bl (j + 1) = none := by rw [HEQ.out, HPK.out]
              rw [HQ2.out, HN.out, makeN_none (by omega) h1])
            go_wp2
            go_ret2
            obtain rfl := HQ4.out
            exact ⟨L6.out.s.bel, none, 0, rfl, ⟨rfl, fun h => absurd h (by simp)⟩, Nat.le_refl _⟩
          | true =>
            have HPK : Hid (pickP k t (tkOf d) x = some hp) := Lib.hid (by unfold pickP; rw [HHQ.out]; rfl)
            have HKY : Hid (okPt hp.o) := Lib.hid (host_key HHQ.out HTM.out)
            generalize w6.alloc _ = wx at *
            have hb64 : j < maxLen := by unfold maxLen; omega
            obtain ⟨wy, hupd, hmap, hgrow⟩ := L6.out.mp.update portEnc Try.underlying74 hb64 (plainElem_bool Try.underlying4 true) (x := hp.o) HKY.out
            have hmap2 := hmap.congr (g := tkF (tkOf (d ++ [hp]))) (fun q => by
              unfold tkF
              rw [tkOf_snoc]
              by_cases hq : q = hp.o
              · rw [if_pos hq, if_pos hq]; rfl
              · rw [if_neg hq, if_neg hq])
            simp only [portV] at hupd
            have xb0 := HXB.out.cell 0
            have xb1 := HXB.out.cell 1
            have xb2 := HXB.out.cell 2
            have xb3 := HXB.out.cell 3
            have xb4 := HXB.out.cell 4
            simp [Plc.cells] at xb0 xb1 xb2 xb3 xb4
            have bxy := HXB.out.grown hgrow (fun e => by injection e with e; have := HQX.out; omega)
            have HY := Lib.hid (And.intro hmap2 (And.intro hgrow bxy))
            clear hmap hmap2 hgrow bxy
            go_upto_region 18 with fail
            clear xb0 xb1 xb2 xb3 xb4 hupd
            obtain ⟨hmap2, hgrow, bxy⟩ := HY.out
            have xb0 := bxy.cell 0
            have xb1 := bxy.cell 1
            have xb2 := bxy.cell 2
            have xb3 := bxy.cell 3
            have xb4 := bxy.cell 4
            simp [Plc.cells] at xb0 xb1 xb2 xb3 xb4
            obtain ⟨es9, cl9, hmo⟩ := L6.out.mp.mapObj
            have hlo := L6.out.lo
            have hhi := L6.out.hi
            have sY := L6.out.s.grown hgrow (by omega)
            have brY := L6.out.br.grown_other hgrow hmo rfl
            have ownY : wy.ownsRow (r + 1) 56 5 u9 d.length (plcC d) := L6.out.own.kept hgrow (by
              right
              intro e
              have := (L6.out.own.lt r e).1
              omega)
            have hdl := makeN_len L6.out.eq
            have hry := hmap2.lt
            have OW := Lib.hid (ownY.alloc (.cells #[.int .i64 hp.c, .int .i64 hp.o.1, .int .i64 hp.o.2, .int .i64 hp.i.1, .int .i64 hp.i.2] 56))
            have bN := Blk.new wy 56 #[.int .i64 hp.c, .int .i64 hp.o.1, .int .i64 hp.o.2, .int .i64 hp.i.1, .int .i64 hp.i.2]
            have HYY := Lib.hid (And.intro hmap2 (And.intro sY brY))
            clear hmap2 hgrow bxy sY brY ownY hmo HY
            go_wp2_with (at_builtin; refine app_own Try.underlying50 hi0 hz0 hz1 hz2 rfl (by decide) OW.out (by simp; omega) rfl (.tmp 72) (.tmp 74) rfl rfl wy.heap.size 1 1 #[.int .i64 hp.c, .int .i64 hp.o.1, .int .i64 hp.o.2, .int .i64 hp.i.1, .int .i64 hp.i.2] rfl bN rfl (by simp [Value.oneCell']) (by omega) (by omega) ?_; intro v' w' hown hg hb4 hat)
            have hb5 : Below (r + 1) wy w' := ((Below.refl _ wy).alloc (by omega) _).trans hb4
            have L8 : Hid (MkL w w' k t bl (some ⟨b, off, none⟩) r r (j + 1) v' (d ++ [hp])) := Lib.hid (by
              obtain ⟨hm2, sY, brY⟩ := HYY.out
              refine ⟨⟨sY.bel.trans (hb5.mono (by omega)), sY.kb.below hb5 (by omega), sY.tb.below hb5 (by omega)⟩, brY.below (hb5.mono (by omega)), Nat.le_refl _, hlo, hm2.deep (hb5.block r (by omega)), ?_, ?_⟩
              · have e : plcC (d ++ [hp]) = plcC d ++ (#[.int .i64 hp.c, .int .i64 hp.o.1, .int .i64 hp.o.2, .int .i64 hp.i.1, .int .i64 hp.i.2] : Array Value).toList := by simp [plcC, Plc.cells]
                rw [e, List.length_append]
                exact hown
              · rw [HEQ.out, HPK.out])
            clear hown hg hb4 hat bN OW hb5 HYY hdl
            go_roundw
            case rel => exact ⟨j + 1, _, by omega, by go_num, L8⟩
            case measure => simp [intOf]; omega
        | false =>
          obtain ⟨hx1, hx2, hpz⟩ := host_inner HHQ.out
          subst hpz
          have hbr1 : isBr k x.2.1 := by
            rcases HTR.out with ⟨h1, h2, h3⟩ | ⟨h1, h2, h3⟩ | ⟨h1, h2, h3, h4⟩
            · omega
            · omega
            · exact isBr_of HMF.out h1 h2
          have hbr2 : isBr k x.2.2 := by
            rcases HTR.out with ⟨h1, h2, h3⟩ | ⟨h1, h2, h3⟩ | ⟨h1, h2, h3, h4⟩
            · omega
            · omega
            · exact isBr_of HMF.out h3 h4
          have HN1 := Lib.hid (HNO.out x.2.1 hbr1)
          have HN2 := Lib.hid (HNO.out x.2.2 hbr2)
          have hnk := node_ok (t := t) HKM.out HTM.out (b := x.2.1.toNat) (hbr1.2.imp id (fun h => by omega))
          have HF := Lib.hid (fun w1 hb hm => HFR.out (tkOf d) r j (nodeI k t x.2.1.toNat) (nodeI k t x.2.2.toNat) (by unfold i64ok; omega) w1 hb hm)
          have HNK := Lib.hid hnk
          have hbd : Below w.heap.size w (w6.alloc (.cells #[.int .i64 plcZ.c, .int .i64 plcZ.o.1, .int .i64 plcZ.o.2, .int .i64 plcZ.i.1, .int .i64 plcZ.i.2] 56)).drew := L6.out.s.bel.trans ⟨rfl, rfl, rfl, Nat.le_refl _, fun _ _ => rfl⟩
          have kd := below_drew0 (w6.alloc (.cells #[.int .i64 plcZ.c, .int .i64 plcZ.o.1, .int .i64 plcZ.o.2, .int .i64 plcZ.i.1, .int .i64 plcZ.i.2] 56))
          have L7d := Lib.hid (L6.out.call kd)
          have M7 := L7d.out.mp
          have HXBd := Lib.hid (HXB.out.call kd)
          have HBCd := Lib.hid (HBC6.out.call kd)
          have S7 : SBel w6 (w6.alloc (.cells #[.int .i64 plcZ.c, .int .i64 plcZ.o.1, .int .i64 plcZ.o.2, .int .i64 plcZ.i.1, .int .i64 plcZ.i.2] 56)) := (SBel.refl w6).alloc _
          have S7d : SBel w6 (w6.alloc (.cells #[.int .i64 plcZ.c, .int .i64 plcZ.o.1, .int .i64 plcZ.o.2, .int .i64 plcZ.i.1, .int .i64 plcZ.i.2] 56)).drew := S7
          have HNE : Hid (u9.ownBlock ≠ some w6.heap.size) := Lib.hid (HOL.out)
          obtain ⟨x1, x2, x3⟩ := H66.out
          simp only [KK.flat] at x1
          simp only [TN.flat] at x2
          have e0 := x1.cell 0
          have e1 := x1.cell 1
          have e2 := x1.cell 2
          have e3 := x1.cell 3
          have e4 := x1.cell 4
          have e5 := x1.cell 5
          have e6 := x1.cell 6
          have e7 := x1.cell 7
          have e8 := x1.cell 8
          have e9 := x1.cell 9
          have e10 := x1.cell 10
          simp at e0 e1 e2 e3 e4 e5 e6 e7 e8 e9 e10
          have q0 := x2.cell 0
          have q1 := x2.cell 1
          have q2 := x2.cell 2
          have q3 := x2.cell 3
          simp at q0 q1 q2 q3
          have p0 := x3.cell 0
          have p1 := x3.cell 1
          have p2 := x3.cell 2
          simp at p0 p1 p2
          have g0 : w.heap.size < w6.heap.size := by have := x1.lt; exact this
          have g1 : w.heap.size + 1 < w6.heap.size := x2.lt
          have g2 : wr.heap.size < w6.heap.size := x3.lt
          have bcw := HBC6.out.cell 0
          clear x1 x2 x3 kd S7 L6 HXB HBC6 bcw
          cases hfn : freeN t (tkOf d) (nodeI k t x.2.1.toNat) (nodeI k t x.2.2.toNat) 4 with
          | none =>
            rw [hfn] at HF
            simp only [freeV, Plc.cells] at HF
            have HPK : Hid (pickP k t (tkOf d) x = none) := Lib.hid (by unfold pickP; rw [HHQ.out, hfn]; rfl)
            clear hfn hbr1 hbr2 hnk hx1 hx2
            go_upto_region 13 with fail
            go_region_held3 (fun w' => w6.heap.size ≤ w'.heap.size ∧ ∀ b o, b < w6.heap.size → w'.cell? ⟨b, o, none⟩ = w6.cell? ⟨b, o, none⟩) (first | exact S7d | exact S7d.below hb8 | exact (S7d.below hb8).below hb9 | exact ((S7d.below hb8).below hb9).below hbA | exact (((((((S7d.below hb8).below hb9).below hbA).set (by simp) _).set (by simp) _).set (by simp) _).set (by simp) _).set (by simp) _)
              (first
                | (go_at_call 26; (with_reducible refine (HN1.out _ hbd).mono ?_); rintro e1 w8 ⟨rfl, hb8⟩
                   have hbd8 := hbd.trans (hb8.mono hbd.size))
                | (go_at_call 26; (with_reducible refine (HN2.out _ hbd8).mono ?_); rintro e1 w9 ⟨rfl, hb9⟩
                   have hbd9 := hbd8.trans (hb9.mono hbd8.size)
                   have M9 := (M7.call hb8).call hb9)
                | (go_at_call 25; (with_reducible refine (HF.out _ hbd9 M9).mono ?_); rintro e1 wA ⟨rfl, hbA⟩
                   have bA := ((HXBd.out.call hb8).call hb9).call hbA
                   have f0 := bA.frozen 0
                   have f1 := bA.frozen 1
                   have f2 := bA.frozen 2
                   have f3 := bA.frozen 3
                   have f4 := bA.frozen 4
                   have z0 := bA.cell 0
                   have z1 := bA.cell 1
                   have z2 := bA.cell 2
                   have z3 := bA.cell 3
                   have z4 := bA.cell 4
                   simp [Plc.cells, plcZ] at z0 z1 z2 z3 z4))
            have LA := ((L7d.out.call hb8).call hb9).call hbA
            have bcA := ((HBCd.out.call hb8).call hb9).call hbA
            have bX : Blk (((((wA.setCell ⟨w6.heap.size, 0, none⟩ (.int .i64 plcZ.c)).setCell ⟨w6.heap.size, 1, none⟩ (.int .i64 plcZ.o.1)).setCell ⟨w6.heap.size, 2, none⟩ (.int .i64 plcZ.o.2)).setCell ⟨w6.heap.size, 3, none⟩ (.int .i64 plcZ.i.1)).setCell ⟨w6.heap.size, 4, none⟩ (.int .i64 plcZ.i.2)) w6.heap.size 56 (Plc.cells plcZ) := (((((bA.set_ 0 _).set_ 1 _).set_ 2 _).set_ 3 _).set_ 4 _)
            have hqx := HQX.out
            have hne9 := HNE.out
            have LX : Hid (MkL w (((((wA.setCell ⟨w6.heap.size, 0, none⟩ (.int .i64 plcZ.c)).setCell ⟨w6.heap.size, 1, none⟩ (.int .i64 plcZ.o.1)).setCell ⟨w6.heap.size, 2, none⟩ (.int .i64 plcZ.o.2)).setCell ⟨w6.heap.size, 3, none⟩ (.int .i64 plcZ.i.1)).setCell ⟨w6.heap.size, 4, none⟩ (.int .i64 plcZ.i.2)) k t bl (some ⟨b, off, none⟩) r r j u9 d) := Lib.hid (((((LA.setX (p := ⟨w6.heap.size, 0, none⟩) hqx.1 hne9 _).setX (p := ⟨w6.heap.size, 1, none⟩) hqx.1 hne9 _).setX (p := ⟨w6.heap.size, 2, none⟩) hqx.1 hne9 _).setX (p := ⟨w6.heap.size, 3, none⟩) hqx.1 hne9 _).setX (p := ⟨w6.heap.size, 4, none⟩) hqx.1 hne9 _)
            have HBX := Lib.hid bX
            have HCX : Hid (Blk (((((wA.setCell ⟨w6.heap.size, 0, none⟩ (.int .i64 plcZ.c)).setCell ⟨w6.heap.size, 1, none⟩ (.int .i64 plcZ.o.1)).setCell ⟨w6.heap.size, 2, none⟩ (.int .i64 plcZ.o.2)).setCell ⟨w6.heap.size, 3, none⟩ (.int .i64 plcZ.i.1)).setCell ⟨w6.heap.size, 4, none⟩ (.int .i64 plcZ.i.2)) wr.heap.size 57 #[.int .i64 x.1, .int .i64 x.2.1, .int .i64 x.2.2]) := Lib.hid (((((bcA.far (p := ⟨w6.heap.size, 0, none⟩) (by simp; omega) _).far (p := ⟨w6.heap.size, 1, none⟩) (by simp; omega) _).far (p := ⟨w6.heap.size, 2, none⟩) (by simp; omega) _).far (p := ⟨w6.heap.size, 3, none⟩) (by simp; omega) _).far (p := ⟨w6.heap.size, 4, none⟩) (by simp; omega) _)
            clear LA bcA bX hqx hne9 f0 f1 f2 f3 f4 z0 z1 z2 z3 z4 bA hb8 hb9 hbA hbd8 hbd9 M9
            generalize (((((wA.setCell ⟨w6.heap.size, 0, none⟩ (.int .i64 plcZ.c)).setCell ⟨w6.heap.size, 1, none⟩ (.int .i64 plcZ.o.1)).setCell ⟨w6.heap.size, 2, none⟩ (.int .i64 plcZ.o.2)).setCell ⟨w6.heap.size, 3, none⟩ (.int .i64 plcZ.i.1)).setCell ⟨w6.heap.size, 4, none⟩ (.int .i64 plcZ.i.2)) = wB at *
            have xc0 := HCX.out.cell 0
            have xf0 := HBX.out.frozen 0
            have xd0 := HBX.out.cell 0
            simp [Plc.cells, plcZ] at xc0 xd0
            go_upto_region 15 with fail
            have L6 := Lib.hid (LX.out.setX (p := ⟨w6.heap.size, 0, none⟩) HQX.out.1 HNE.out (.int .i64 x.1))
            have bY := HBX.out.set_ 0 (.int .i64 x.1)
            clear xc0 xf0 xd0 LX HBX HCX
            clear bY
            generalize wB.setCell _ _ = wx at *
            have HQ4 : Hid (Q = (400, [])) := Lib.hid (by
              have h1 : makeN k t bl (j + 1) = none := by rw [HEQ.out, HPK.out]
              rw [HQ2.out, HN.out, makeN_none (by omega) h1])
            go_wp2
            go_ret2
            obtain rfl := HQ4.out
            exact ⟨L6.out.s.bel, none, 0, rfl, ⟨rfl, fun h => absurd h (by simp)⟩, Nat.le_refl _⟩
          | some pq =>
            obtain ⟨pp, qq⟩ := pq
            have HKY : Hid (okPt pp) := Lib.hid (by
              obtain ⟨h1, h2, h3⟩ := freeN_key (by omega) hfn
              exact ⟨by unfold i64ok; rw [h1]; omega, by unfold i64ok; omega⟩)
            rw [hfn] at HF
            simp only [freeV, Plc.cells] at HF
            have HPK : Hid (pickP k t (tkOf d) x = some ⟨x.1, pp, qq⟩) := Lib.hid (by unfold pickP; rw [HHQ.out, hfn]; rfl)
            clear hfn hbr1 hbr2 hnk hx1 hx2
            go_upto_region 13 with fail
            go_region_held3 (fun w' => w6.heap.size ≤ w'.heap.size ∧ ∀ b o, b < w6.heap.size → w'.cell? ⟨b, o, none⟩ = w6.cell? ⟨b, o, none⟩) (first | exact S7d | exact S7d.below hb8 | exact (S7d.below hb8).below hb9 | exact ((S7d.below hb8).below hb9).below hbA | exact (((((((S7d.below hb8).below hb9).below hbA).set (by simp) _).set (by simp) _).set (by simp) _).set (by simp) _).set (by simp) _)
              (first
                | (go_at_call 26; (with_reducible refine (HN1.out _ hbd).mono ?_); rintro e1 w8 ⟨rfl, hb8⟩
                   have hbd8 := hbd.trans (hb8.mono hbd.size))
                | (go_at_call 26; (with_reducible refine (HN2.out _ hbd8).mono ?_); rintro e1 w9 ⟨rfl, hb9⟩
                   have hbd9 := hbd8.trans (hb9.mono hbd8.size)
                   have M9 := (M7.call hb8).call hb9)
                | (go_at_call 25; (with_reducible refine (HF.out _ hbd9 M9).mono ?_); rintro e1 wA ⟨rfl, hbA⟩
                   have bA := ((HXBd.out.call hb8).call hb9).call hbA
                   have f0 := bA.frozen 0
                   have f1 := bA.frozen 1
                   have f2 := bA.frozen 2
                   have f3 := bA.frozen 3
                   have f4 := bA.frozen 4
                   have z0 := bA.cell 0
                   have z1 := bA.cell 1
                   have z2 := bA.cell 2
                   have z3 := bA.cell 3
                   have z4 := bA.cell 4
                   simp [Plc.cells, plcZ] at z0 z1 z2 z3 z4))
            have LA := ((L7d.out.call hb8).call hb9).call hbA
            have bcA := ((HBCd.out.call hb8).call hb9).call hbA
            have bX : Blk (((((wA.setCell ⟨w6.heap.size, 0, none⟩ (.int .i64 0)).setCell ⟨w6.heap.size, 1, none⟩ (.int .i64 pp.1)).setCell ⟨w6.heap.size, 2, none⟩ (.int .i64 pp.2)).setCell ⟨w6.heap.size, 3, none⟩ (.int .i64 qq.1)).setCell ⟨w6.heap.size, 4, none⟩ (.int .i64 qq.2)) w6.heap.size 56 (Plc.cells ⟨0, pp, qq⟩) := (((((bA.set_ 0 _).set_ 1 _).set_ 2 _).set_ 3 _).set_ 4 _)
            have hqx := HQX.out
            have hne9 := HNE.out
            have LX : Hid (MkL w (((((wA.setCell ⟨w6.heap.size, 0, none⟩ (.int .i64 0)).setCell ⟨w6.heap.size, 1, none⟩ (.int .i64 pp.1)).setCell ⟨w6.heap.size, 2, none⟩ (.int .i64 pp.2)).setCell ⟨w6.heap.size, 3, none⟩ (.int .i64 qq.1)).setCell ⟨w6.heap.size, 4, none⟩ (.int .i64 qq.2)) k t bl (some ⟨b, off, none⟩) r r j u9 d) := Lib.hid (((((LA.setX (p := ⟨w6.heap.size, 0, none⟩) hqx.1 hne9 _).setX (p := ⟨w6.heap.size, 1, none⟩) hqx.1 hne9 _).setX (p := ⟨w6.heap.size, 2, none⟩) hqx.1 hne9 _).setX (p := ⟨w6.heap.size, 3, none⟩) hqx.1 hne9 _).setX (p := ⟨w6.heap.size, 4, none⟩) hqx.1 hne9 _)
            have HBX := Lib.hid bX
            have HCX : Hid (Blk (((((wA.setCell ⟨w6.heap.size, 0, none⟩ (.int .i64 0)).setCell ⟨w6.heap.size, 1, none⟩ (.int .i64 pp.1)).setCell ⟨w6.heap.size, 2, none⟩ (.int .i64 pp.2)).setCell ⟨w6.heap.size, 3, none⟩ (.int .i64 qq.1)).setCell ⟨w6.heap.size, 4, none⟩ (.int .i64 qq.2)) wr.heap.size 57 #[.int .i64 x.1, .int .i64 x.2.1, .int .i64 x.2.2]) := Lib.hid (((((bcA.far (p := ⟨w6.heap.size, 0, none⟩) (by simp; omega) _).far (p := ⟨w6.heap.size, 1, none⟩) (by simp; omega) _).far (p := ⟨w6.heap.size, 2, none⟩) (by simp; omega) _).far (p := ⟨w6.heap.size, 3, none⟩) (by simp; omega) _).far (p := ⟨w6.heap.size, 4, none⟩) (by simp; omega) _)
            clear LA bcA bX hqx hne9 f0 f1 f2 f3 f4 z0 z1 z2 z3 z4 bA hb8 hb9 hbA hbd8 hbd9 M9
            generalize (((((wA.setCell ⟨w6.heap.size, 0, none⟩ (.int .i64 0)).setCell ⟨w6.heap.size, 1, none⟩ (.int .i64 pp.1)).setCell ⟨w6.heap.size, 2, none⟩ (.int .i64 pp.2)).setCell ⟨w6.heap.size, 3, none⟩ (.int .i64 qq.1)).setCell ⟨w6.heap.size, 4, none⟩ (.int .i64 qq.2)) = wB at *
            have xc0 := HCX.out.cell 0
            have xf0 := HBX.out.frozen 0
            have xd0 := HBX.out.cell 0
            simp [Plc.cells, plcZ] at xc0 xd0
            go_upto_region 15 with fail
            have L6 := Lib.hid (LX.out.setX (p := ⟨w6.heap.size, 0, none⟩) HQX.out.1 HNE.out (.int .i64 x.1))
            have bY := HBX.out.set_ 0 (.int .i64 x.1)
            clear xc0 xf0 xd0 LX HBX HCX
            have HXB : Hid (Blk (wB.setCell ⟨w6.heap.size, 0, none⟩ (.int .i64 x.1)) w6.heap.size 56 (Plc.cells ⟨x.1, pp, qq⟩)) := Lib.hid bY
            clear bY
            generalize wB.setCell _ _ = wx at *
            obtain ⟨yy, hyy⟩ : ∃ y : Plc, y = ⟨x.1, pp, qq⟩ := ⟨_, rfl⟩
            rw [← hyy] at HXB HPK
            have HKY : Hid (okPt yy.o) := Lib.hid (by rw [hyy]; exact HKY.out)
            clear hyy
            have hb64 : j < maxLen := by unfold maxLen; omega
            obtain ⟨wy, hupd, hmap, hgrow⟩ := L6.out.mp.update portEnc Try.underlying74 hb64 (plainElem_bool Try.underlying4 true) (x := yy.o) HKY.out
            have hmap2 := hmap.congr (g := tkF (tkOf (d ++ [yy]))) (fun q => by
              unfold tkF
              rw [tkOf_snoc]
              by_cases hq : q = yy.o
              · rw [if_pos hq, if_pos hq]; rfl
              · rw [if_neg hq, if_neg hq])
            simp only [portV] at hupd
            have xb0 := HXB.out.cell 0
            have xb1 := HXB.out.cell 1
            have xb2 := HXB.out.cell 2
            have xb3 := HXB.out.cell 3
            have xb4 := HXB.out.cell 4
            simp [Plc.cells] at xb0 xb1 xb2 xb3 xb4
            have bxy := HXB.out.grown hgrow (fun e => by injection e with e; have := HQX.out; omega)
            have HY := Lib.hid (And.intro hmap2 (And.intro hgrow bxy))
            clear hmap hmap2 hgrow bxy
            go_upto_region 18 with fail
            clear xb0 xb1 xb2 xb3 xb4 hupd
            obtain ⟨hmap2, hgrow, bxy⟩ := HY.out
            have xb0 := bxy.cell 0
            have xb1 := bxy.cell 1
            have xb2 := bxy.cell 2
            have xb3 := bxy.cell 3
            have xb4 := bxy.cell 4
            simp [Plc.cells] at xb0 xb1 xb2 xb3 xb4
            obtain ⟨es9, cl9, hmo⟩ := L6.out.mp.mapObj
            have hlo := L6.out.lo
            have hhi := L6.out.hi
            have sY := L6.out.s.grown hgrow (by omega)
            have brY := L6.out.br.grown_other hgrow hmo rfl
            have ownY : wy.ownsRow (r + 1) 56 5 u9 d.length (plcC d) := L6.out.own.kept hgrow (by
              right
              intro e
              have := (L6.out.own.lt r e).1
              omega)
            have hdl := makeN_len L6.out.eq
            have hry := hmap2.lt
            have OW := Lib.hid (ownY.alloc (.cells #[.int .i64 yy.c, .int .i64 yy.o.1, .int .i64 yy.o.2, .int .i64 yy.i.1, .int .i64 yy.i.2] 56))
            have bN := Blk.new wy 56 #[.int .i64 yy.c, .int .i64 yy.o.1, .int .i64 yy.o.2, .int .i64 yy.i.1, .int .i64 yy.i.2]
            have HYY := Lib.hid (And.intro hmap2 (And.intro sY brY))
            clear hmap2 hgrow bxy sY brY ownY hmo HY
            go_wp2_with (at_builtin; refine app_own Try.underlying50 hi0 hz0 hz1 hz2 rfl (by decide) OW.out (by simp; omega) rfl (.tmp 72) (.tmp 74) rfl rfl wy.heap.size 1 1 #[.int .i64 yy.c, .int .i64 yy.o.1, .int .i64 yy.o.2, .int .i64 yy.i.1, .int .i64 yy.i.2] rfl bN rfl (by simp [Value.oneCell']) (by omega) (by omega) ?_; intro v' w' hown hg hb4 hat)
            have hb5 : Below (r + 1) wy w' := ((Below.refl _ wy).alloc (by omega) _).trans hb4
            have L8 : Hid (MkL w w' k t bl (some ⟨b, off, none⟩) r r (j + 1) v' (d ++ [yy])) := Lib.hid (by
              obtain ⟨hm2, sY, brY⟩ := HYY.out
              refine ⟨⟨sY.bel.trans (hb5.mono (by omega)), sY.kb.below hb5 (by omega), sY.tb.below hb5 (by omega)⟩, brY.below (hb5.mono (by omega)), Nat.le_refl _, hlo, hm2.deep (hb5.block r (by omega)), ?_, ?_⟩
              · have e : plcC (d ++ [yy]) = plcC d ++ (#[.int .i64 yy.c, .int .i64 yy.o.1, .int .i64 yy.o.2, .int .i64 yy.i.1, .int .i64 yy.i.2] : Array Value).toList := by simp [plcC, Plc.cells]
                rw [e, List.length_append]
                exact hown
              · rw [HEQ.out, HPK.out])
            clear hown hg hb4 hat bN OW hb5 HYY hdl
            go_roundw
            case rel => exact ⟨j + 1, _, by omega, by go_num, L8⟩
            case measure => simp [intOf]; omega
      · have hltI : ¬ (j : Int) < n := by omega
        obtain rfl : n = j := by omega
        have HQ3 : Hid (Q = (0, d)) := Lib.hid (by rw [HQ2.out, HN.out, L.out.eq])
        obtain ⟨A9, c9, hv9, hcp⟩ := own_cap L.out.own
        subst hv9
        have HCP := Lib.hid hcp
        clear hcp
        go_wp2
        go_ret2
        obtain rfl := HQ3.out
        exact ⟨L.out.s.bel, A9, c9, rfl, Reads.of_own L.out.own, HCP.out⟩
  · have HQ2 : Hid (Q = (be, [])) := Lib.hid (by rw [HQ1.out, if_neg h0])
    have y0 : (be != 0) = true := by simp [h0]
    clear HQ1 HBO h0
    go_wp2
    go_ret2
    obtain rfl := HQ2.out
    exact ⟨S3.out.bel, none, 0, rfl, ⟨rfl, fun h => absurd h (by simp)⟩, Nat.le_refl _⟩
end Go.Proofs.Ytekamebpjjkifaa
