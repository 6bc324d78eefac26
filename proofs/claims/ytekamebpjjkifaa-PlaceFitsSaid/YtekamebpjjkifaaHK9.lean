/- Texts that belong together, joined: what each one holds is told ahead of it. -/
import Derived.Test.YtekamebpjjkifaaHK2
import Derived.Test.YtekamebpjjkifaaHK8
/- The ends of channels in a process, handed over one by one: walk, walked. -/
namespace Go.Proofs.Ytekamebpjjkifaa
open Go.RowKit
set_option linter.unusedSimpArgs false
set_option linter.unusedVariables false

theorem roundIn_wide_any {n m : Nat} {P : Program} {l : Nat} {f : FuncId} {tmps : Array Value} {assign body : Code} {w : World} {R : Ending → World → Prop} (h : RoundIn Fence.wide n P l f tmps assign body w R) : RoundIn Fence.wide m P l f tmps assign body w R :=
  ⟨h.1, fun c cs _ => h.2 c cs (room_wide _)⟩
theorem yieldAt_wide {n m : Nat} {P : Program} {l : Nat} {args : Array Value} {w : World} {R : Ending → World → Prop} (h : YieldAt Fence.wide n P l args w R) : YieldAt Fence.wide m P l args w R := by
  obtain ⟨fn, tmps, assign, body, h1, h2⟩ := h
  exact ⟨fn, tmps, assign, body, h1, roundIn_wide_any h2⟩
/-- What a call of yield does: it goes on, or stops. -/
def YEnd (X : Nat → Prop) (J Jx : List (Int × Bool) → World → Prop) (pre : List (Int × Bool)) (x : Int × Bool) (W1 : World) (e : Ending) (W' : World) : Prop :=
  (e = .returned (.bool true) ∧ J (pre ++ [x]) W' ∧ KeepC X W1 W') ∨ (e = .returned (.bool false) ∧ Jx (pre ++ [x]) W')
/-- What the caller of an iterator keeps. -/
structure WalkAt (p : KP) (l B S0 : Nat) (X : Nat → Prop) (J Jx : List (Int × Bool) → World → Prop) (xs : List (Int × Bool)) : Prop where
  hX : ∀ k, X k → k < S0
  hB : B ≤ S0
  dJ : Deep S0 J
  dJx : Deep S0 Jx
  hD : ∀ pre W, J pre W → p.In W B ∧ S0 ≤ W.heap.size
  hY : ∀ pre x r W1, J pre W1 → xs = pre ++ x :: r → YieldAt Fence.wide 0 Try.prog l #[endV x] W1 (YEnd X J Jx pre x W1)
theorem WalkAt.part {p x : KP} {l B S0 : Nat} {X : Nat → Prop} {J Jx : List (Int × Bool) → World → Prop} {xs : List (Int × Bool)} (h : WalkAt p l B S0 X J Jx xs) (hx : x ∈ p.l) : WalkAt x l B S0 X J Jx xs :=
  ⟨h.hX, h.hB, h.dJ, h.dJx, fun pre W hj => ⟨(h.hD pre W hj).1.part hx, (h.hD pre W hj).2⟩, h.hY⟩
theorem WalkAt.guard {p x : KP} {g : KG} {l B S0 : Nat} {X : Nat → Prop} {J Jx : List (Int × Bool) → World → Prop} {xs : List (Int × Bool)} (h : WalkAt p l B S0 X J Jx xs) (hg : g ∈ p.g) (hx : x ∈ g.body) : WalkAt x l B S0 X J Jx xs :=
  ⟨h.hX, h.hB, h.dJ, h.dJx, fun pre W hj => ⟨(h.hD pre W hj).1.guard hg hx, (h.hD pre W hj).2⟩, h.hY⟩
/-- What walk answers. -/
def RetWk (X : Nat → Prop) (J Jx : List (Int × Bool) → World → Prop) (xs pre0 own : List (Int × Bool)) (W : World) (e : Ending) (W' : World) : Prop :=
  (e = .returned (.bool true) ∧ J (pre0 ++ own) W' ∧ KeepC X W W') ∨ (e = .returned (.bool false) ∧ ∃ pre x r, xs = pre ++ x :: r ∧ Jx (pre ++ [x]) W')
def WalkOk (p : KP) : Prop := ∀ (l B S0 : Nat) (X : Nat → Prop) (J Jx : List (Int × Bool) → World → Prop) (xs pre0 rest : List (Int × Bool)) (W : World), WalkAt p l B S0 X J Jx xs → xs = pre0 ++ (endsP p ++ rest) → J pre0 W →
  Calls Try.prog 37 #[.agg p.cells, .func (.yield l) #[] #[]] W (RetWk X J Jx xs pre0 (endsP p) W)
def ownE (p : KP) : List (Int × Bool) := if p.kind = 6 then [(p.c, true)] else if p.kind = 5 then [(p.c, false)] else []
theorem ownE_eq (p : KP) : endsP p = ownE p ++ (endsPs p.l ++ endsGs p.g) := endsP_eq p
theorem endsPs_split {l : List KP} {k : Nat} {x : KP} (h : l[k]? = some x) : endsPs l = endsPs (l.take k) ++ (endsP x ++ endsPs (l.drop (k + 1))) := by
  have h1 : l = l.take k ++ (x :: l.drop (k + 1)) := by
    obtain ⟨hk, hx⟩ := List.getElem?_eq_some_iff.1 h
    rw [← hx, List.getElem_cons_drop, List.take_append_drop]
  conv => lhs; rw [h1, endsPs_append, endsPs]
theorem endsGs_split {l : List KG} {k : Nat} {x : KG} (h : l[k]? = some x) : endsGs l = endsGs (l.take k) ++ (endsG x ++ endsGs (l.drop (k + 1))) := by
  have h1 : l = l.take k ++ (x :: l.drop (k + 1)) := by
    obtain ⟨hk, hx⟩ := List.getElem?_eq_some_iff.1 h
    rw [← hx, List.getElem_cons_drop, List.take_append_drop]
  conv => lhs; rw [h1, endsGs_append, endsGs]
/-- The state of walk between two ends. -/
structure WkS (W wr : World) (X : Nat → Prop) (J : List (Int × Bool) → World → Prop) (pre : List (Int × Bool)) (cs : Array Value) : Prop where
  j : J pre wr
  k : KeepC X W wr
  pb : Blk wr W.heap.size 31 cs
section
variable {p : KP} {l B S0 : Nat} {X : Nat → Prop} {J Jx : List (Int × Bool) → World → Prop} {xs pre pre' : List (Int × Bool)} {W wr w1 : World} {cs : Array Value}
theorem WkS.alloc (hw : WalkAt p l B S0 X J Jx xs) (h : WkS W wr X J pre cs) (o : Obj) : WkS W (wr.alloc o) X J pre cs :=
  ⟨hw.dJ _ _ _ h.j ((Below.refl S0 wr).alloc (hw.hD _ _ h.j).2 _), h.k.trans (KeepC.alloc _ _ _), h.pb.alloc _⟩
theorem WkS.step (hw : WalkAt p l B S0 X J Jx xs) (hs : S0 ≤ W.heap.size) (h : WkS W wr X J pre cs) (hj : J pre' w1) (hk : KeepC X wr w1) : WkS W w1 X J pre' cs :=
  ⟨hj, h.k.trans hk, hk.block _ _ _ _ (fun hx => by have := hw.hX _ hx; omega) h.pb⟩
/-- What a call inside leaves. -/
def RetWs (W : World) (X : Nat → Prop) (J Jx : List (Int × Bool) → World → Prop) (xs pre own : List (Int × Bool)) (cs : Array Value) (e : Ending) (w1 : World) : Prop :=
  (e = .returned (.bool true) ∧ Hid (WkS W w1 X J (pre ++ own) cs)) ∨ (e = .returned (.bool false) ∧ Hid (∃ pre x r, xs = pre ++ x :: r ∧ Jx (pre ++ [x]) w1))
theorem WkS.call {x : KP} {rest : List (Int × Bool)} (hx : WalkOk x) (hw : WalkAt x l B S0 X J Jx xs) (hs : S0 ≤ W.heap.size) (hxs : xs = pre ++ (endsP x ++ rest)) (h : WkS W w1 X J pre cs) :
    Calls Try.prog 37 #[.agg x.cells, .func (.yield l) #[] #[]] w1 (RetWs W X J Jx xs pre (endsP x) cs) := by
  refine (hx l B S0 X J Jx xs pre rest w1 hw hxs h.j).mono ?_
  rintro e w2 (⟨rfl, hj, hk⟩ | ⟨rfl, hq⟩)
  · exact .inl ⟨rfl, Lib.hid (h.step hw hs hj hk)⟩
  · exact .inr ⟨rfl, Lib.hid hq⟩
theorem WkS.end_ (h : WkS W wr X J pre cs) {q : List (Int × Bool)} (hq : pre = q) : WkS W wr X J q cs := hq ▸ h
end
set_option maxRecDepth 100000 in
set_option maxHeartbeats 8000000 in
theorem pWalk1 (p : KP) (hb : Bodies p) (hil : ∀ x ∈ p.l, WalkOk x) (hig : ∀ g ∈ p.g, ∀ x ∈ g.body, WalkOk x) : WalkOk p := by
  intro l B S0 X J Jx xs pre0 rest W hw hxs hj
  have HWA := Lib.hid hw
  have HIL := Lib.hid hil
  have HIG := Lib.hid hig
  have HBD := Lib.hid hb
  rw [ownE_eq] at hxs
  have HXS := Lib.hid hxs
  obtain ⟨m, hm⟩ : ∃ m, p.l.length = m := ⟨_, rfl⟩
  obtain ⟨mg, hmg⟩ : ∃ m, p.g.length = m := ⟨_, rfl⟩
  have hlen := (hw.hD _ _ hj).1.one.1.2.2.2.2.2
  have hlen2 := (hw.hD _ _ hj).1.one.1.2.2.2.2.1
  unfold lenOk at hlen hlen2
  rw [hm] at hlen
  rw [hmg] at hlen2
  have HS0 := Lib.hid (hw.hD _ _ hj).2
  have HM := Lib.hid hm
  have HMG := Lib.hid hmg
  obtain ⟨PA, hPA⟩ : ∃ q, p.Al = q := ⟨_, rfl⟩
  obtain ⟨PG, hPG⟩ : ∃ q, p.Ag = q := ⟨_, rfl⟩
  have HPA := Lib.hid hPA
  have HPG := Lib.hid hPG
  obtain ⟨W0, hW0⟩ : ∃ W0, W.alloc (.cells p.cells 31) = W0 := ⟨_, rfl⟩
  have b0 : Blk W0 W.heap.size 31 p.cells := by rw [← hW0]; exact Blk.new W _ _
  have S0' : WkS W W0 X J pre0 p.cells := ⟨by rw [← hW0]; exact hw.dJ _ _ _ hj ((Below.refl S0 W).alloc HS0.out _), by rw [← hW0]; exact KeepC.alloc _ _ _, b0⟩
  have S := Lib.hid S0'
  have HR : Hid (∀ e w1, RetWk X J Jx xs pre0 (ownE p ++ (endsPs p.l ++ endsGs p.g)) W e w1 → RetWk X J Jx xs pre0 (endsP p) W e w1) := Lib.hid (fun e w1 h => by rw [ownE_eq]; exact h)
  refine Calls.mono ?_ HR.out
  simp only [KP.cells, hm, hmg, hPA, hPG] at b0 hW0 S ⊢
  have e0 := b0.cell 0
  have e1 := b0.cell 1
  have e2 := b0.cell 2
  have e3 := b0.cell 3
  have e4 := b0.cell 4
  have e5 := b0.cell 5
  have e6 := b0.cell 6
  have e7 := b0.cell 7
  simp at e0 e1 e2 e3 e4 e5 e6 e7
  clear b0 hj hw hxs hm hmg S0' hil hig hb HR hPA hPG
  go_enter Try.func37, Try.ntmps37
  go_upto_region 1 with fail
  go_cut [27] (fun s27 wx => (s27 = .bool false ∧ Hid (WkS W wx X J (pre0 ++ ownE p) #[.int .u8 p.kind, .int .i64 p.c, .int .i64 p.v, .int .u8 p.item, .slice p.At p.tos.length p.ct, .slice p.Ae p.e.length p.ce, .slice PG mg p.cg, .slice PA m p.cl])) ∨ (s27 = .bool true ∧ Hid (∃ pre x r, xs = pre ++ x :: r ∧ Jx (pre ++ [x]) wx)))
  case first =>
    clear HIL HIG HBD
    by_cases h6 : p.kind = 6
    · have hoe : ownE p = [(p.c, true)] := by unfold ownE; rw [if_pos h6]
      have y6 : ((p.kind : Int) == 6) = true := by simp [h6]
      have HOE := Lib.hid hoe
      have hy := yieldAt_wide (m := 8) (HWA.out.hY pre0 (p.c, true) (endsPs p.l ++ endsGs p.g ++ rest) W0 S.out.j (by rw [HXS.out, hoe]; simp))
      obtain ⟨fn, tmps, assign, body, hy1, hy2⟩ := hy
      simp only [endV] at hy1
      have HY2 := Lib.hid hy2
      clear hoe h6 hy2
      refine (wpIn_wide (n := 9)).1 ?_
      gi_wp2
      refine HY2.out.mono ?_
      rintro e w1 (⟨rfl, hJ1, kx⟩ | ⟨rfl, hJx1⟩)
      · have S1 := Lib.hid (S.out.step HWA.out HS0.out hJ1 kx)
        clear hJ1 kx
        gi_wp2
        go_meet
        rw [HOE.out]
        exact .inl ⟨rfl, S1⟩
      · have HX : Hid (∃ pre x r, xs = pre ++ x :: r ∧ Jx (pre ++ [x]) w1) := Lib.hid ⟨pre0, (p.c, true), endsPs p.l ++ endsGs p.g ++ rest, by rw [HXS.out, HOE.out]; simp, hJx1⟩
        clear hJx1
        gi_wp2
        go_meet
        exact .inr ⟨rfl, HX⟩
    by_cases h5 : p.kind = 5
    · have hoe : ownE p = [(p.c, false)] := by unfold ownE; rw [if_neg h6, if_pos h5]
      have y6 : ((p.kind : Int) == 6) = false := by simp [h5]
      have y5 : ((p.kind : Int) == 5) = true := by simp [h5]
      have HOE := Lib.hid hoe
      have hy := yieldAt_wide (m := 8) (HWA.out.hY pre0 (p.c, false) (endsPs p.l ++ endsGs p.g ++ rest) W0 S.out.j (by rw [HXS.out, hoe]; simp))
      obtain ⟨fn, tmps, assign, body, hy1, hy2⟩ := hy
      simp only [endV] at hy1
      have HY2 := Lib.hid hy2
      clear hoe h6 h5 hy2
      refine (wpIn_wide (n := 9)).1 ?_
      gi_wp2
      refine HY2.out.mono ?_
      rintro e w1 (⟨rfl, hJ1, kx⟩ | ⟨rfl, hJx1⟩)
      · have S1 := Lib.hid (S.out.step HWA.out HS0.out hJ1 kx)
        clear hJ1 kx
        gi_wp2
        go_meet
        rw [HOE.out]
        exact .inl ⟨rfl, S1⟩
      · have HX : Hid (∃ pre x r, xs = pre ++ x :: r ∧ Jx (pre ++ [x]) w1) := Lib.hid ⟨pre0, (p.c, false), endsPs p.l ++ endsGs p.g ++ rest, by rw [HXS.out, HOE.out]; simp, hJx1⟩
        clear hJx1
        gi_wp2
        go_meet
        exact .inr ⟨rfl, HX⟩
    have hoe : ownE p = [] := by unfold ownE; rw [if_neg h6, if_neg h5]
    have y6 : ((p.kind : Int) == 6) = false := by simp; omega
    have y5 : ((p.kind : Int) == 5) = false := by simp; omega
    have HOE := Lib.hid hoe
    clear hoe h6 h5
    go_wp2_with fail
    go_meet
    exact .inl ⟨rfl, by rw [HOE.out, List.append_nil]; exact S⟩
  case rest =>
    clear S e0 e1 e2 e3 e4 e5 e6 e7
    rcases hcut with ⟨rfl, S⟩ | ⟨rfl, HX⟩
    rotate_left
    · go_wp2
      go_ret
      exact .inr ⟨rfl, HX.out⟩
    have x1 := S.out.pb
    have e0 := x1.cell 0
    have e1 := x1.cell 1
    have e2 := x1.cell 2
    have e3 := x1.cell 3
    have e4 := x1.cell 4
    have e5 := x1.cell 5
    have e6 := x1.cell 6
    have e7 := x1.cell 7
    simp at e0 e1 e2 e3 e4 e5 e6 e7
    clear x1
    go_upto_block 0 with fail
    go_cut [31] (fun s31 wx => Hid (WkS W wx X J (pre0 ++ ownE p ++ endsPs p.l) #[.int .u8 p.kind, .int .i64 p.c, .int .i64 p.v, .int .u8 p.item, .slice p.At p.tos.length p.ct, .slice p.Ae p.e.length p.ce, .slice PG mg p.cg, .slice PA m p.cl]))
    case first =>
      go_wp2_with fail
      go_loopw [31] (fun i wr => ∃ j : Nat, j ≤ m ∧ i = .int .i64 j ∧ Hid (WkS W wr X J (pre0 ++ ownE p ++ endsPs (p.l.take j)) #[.int .u8 p.kind, .int .i64 p.c, .int .i64 p.v, .int .u8 p.item, .slice p.At p.tos.length p.ct, .slice p.Ae p.e.length p.ce, .slice PG mg p.cg, .slice PA m p.cl])) (fun i _ => m - (intOf i).toNat)
      case atStart => exact ⟨0, Nat.zero_le _, rfl, Lib.hid (by rw [List.take_zero, endsPs, List.append_nil]; exact S.out)⟩
      case round =>
        clear S e0 e1 e2 e3 e4 e5 e6 e7
        obtain ⟨j, hj, rfl, S⟩ := hrel
        have x1 := S.out.pb
        have hpw := x1.lt
        have e0 := x1.cell 0
        have e1 := x1.cell 1
        have e2 := x1.cell 2
        have e3 := x1.cell 3
        have e4 := x1.cell 4
        have e5 := x1.cell 5
        have e6 := x1.cell 6
        have e7 := x1.cell 7
        simp at e0 e1 e2 e3 e4 e5 e6 e7
        clear x1
        by_cases hlt : j < m
        · have hltI : (j : Int) < m := by omega
          have hin := (HWA.out.hD _ _ S.out.j).1
          have hBw : B ≤ wr.heap.size := Nat.le_trans HWA.out.hB (HWA.out.hD _ _ S.out.j).2
          obtain ⟨b, off, x, hA, hb, hx, hmx, c0, c1, c2, c3, c4, c5, c6, c7⟩ := kps_at hin.one.2.2.2.2 rfl (k := j) (by rw [HM.out]; exact hlt)
          have hbw : b < wr.heap.size := Nat.lt_of_lt_of_le hb hBw
          obtain rfl : PA = some ⟨b, off, none⟩ := HPA.out.symm.trans hA
          have S2 := Lib.hid (S.out.alloc HWA.out (.cells x.cells 31))
          have bx := Blk.new wr 31 x.cells
          simp only [KP.cells] at S2 bx
          have HB := Lib.hid bx
          have HC : Hid (∀ w1 : World, WkS W w1 X J (pre0 ++ ownE p ++ endsPs (p.l.take j)) #[.int .u8 p.kind, .int .i64 p.c, .int .i64 p.v, .int .u8 p.item, .slice p.At p.tos.length p.ct, .slice p.Ae p.e.length p.ce, .slice PG mg p.cg, .slice (some ⟨b, off, none⟩) m p.cl] → Calls Try.prog 37 #[.agg x.cells, .func (.yield l) #[] #[]] w1 (RetWs W X J Jx xs (pre0 ++ ownE p ++ endsPs (p.l.take j)) (endsP x) #[.int .u8 p.kind, .int .i64 p.c, .int .i64 p.v, .int .u8 p.item, .slice p.At p.tos.length p.ct, .slice p.Ae p.e.length p.ce, .slice PG mg p.cg, .slice (some ⟨b, off, none⟩) m p.cl])) := Lib.hid fun w1 h => h.call (HIL.out x hmx) (HWA.out.part hmx) HS0.out (rest := endsPs (p.l.drop (j + 1)) ++ endsGs p.g ++ rest) (by rw [HXS.out, endsPs_split hx]; simp)
          simp only [KP.cells] at HC
          have HSN := Lib.hid (endsPs_snoc hx)
          clear bx hx hmx hA hin
          go_upto_region 6 with fail
          generalize wr.alloc _ = w2 at *
          have x1 := S2.out.pb
          have bx := HB.out
          clear c0 c1 c2 c3 c4 c5 c6 c7 e0 e1 e2 e3 e4 e5 e6 e7 HB S
          have e0 := x1.cell 0
          have e1 := x1.cell 1
          have e2 := x1.cell 2
          have e3 := x1.cell 3
          have e4 := x1.cell 4
          have e5 := x1.cell 5
          have e6 := x1.cell 6
          have e7 := x1.cell 7
          simp at e0 e1 e2 e3 e4 e5 e6 e7
          have d0 := bx.cell 0
          have d1 := bx.cell 1
          have d2 := bx.cell 2
          have d3 := bx.cell 3
          have d4 := bx.cell 4
          have d5 := bx.cell 5
          have d6 := bx.cell 6
          have d7 := bx.cell 7
          simp at d0 d1 d2 d3 d4 d5 d6 d7
          clear x1 bx
          go_wp2_with (first
            | (go_at_call 37; (with_reducible refine (HC.out _ S2.out).mono ?_); rintro e1 w3 (⟨rfl, S3⟩ | ⟨rfl, HX3⟩)))
          · go_roundw
            case rel => exact ⟨j + 1, by omega, by go_num, Lib.hid (by rw [HSN.out, ← List.append_assoc]; exact S3.out)⟩
            case measure => simp [intOf]; omega
          · go_ret
            exact .inr ⟨rfl, HX3.out⟩
        · have hltI : ¬ (j : Int) < m := by omega
          obtain rfl : m = j := by omega
          have htk : p.l.take m = p.l := List.take_of_length_le (by rw [HM.out]; omega)
          have hst := S.out
          rw [htk] at hst
          have HST := Lib.hid hst
          clear htk hst
          go_wp2_with fail
          go_meet
          exact HST
    case rest =>
      clear S e0 e1 e2 e3 e4 e5 e6 e7
      have S := hcut
      clear hcut
      have x1 := S.out.pb
      have e0 := x1.cell 0
      have e1 := x1.cell 1
      have e2 := x1.cell 2
      have e3 := x1.cell 3
      have e4 := x1.cell 4
      have e5 := x1.cell 5
      have e6 := x1.cell 6
      have e7 := x1.cell 7
      simp at e0 e1 e2 e3 e4 e5 e6 e7
      clear x1 HIL
      go_wp2_with fail
      go_loopw [43] (fun i wr => ∃ j2 : Nat, j2 ≤ mg ∧ i = .int .i64 j2 ∧ Hid (WkS W wr X J (pre0 ++ ownE p ++ endsPs p.l ++ endsGs (p.g.take j2)) #[.int .u8 p.kind, .int .i64 p.c, .int .i64 p.v, .int .u8 p.item, .slice p.At p.tos.length p.ct, .slice p.Ae p.e.length p.ce, .slice PG mg p.cg, .slice PA m p.cl])) (fun i _ => mg - (intOf i).toNat)
      case atStart => exact ⟨0, Nat.zero_le _, rfl, Lib.hid (by rw [List.take_zero, endsGs, List.append_nil]; exact S.out)⟩
      case round =>
        clear S e0 e1 e2 e3 e4 e5 e6 e7
        obtain ⟨j2, hj2, rfl, S⟩ := hrel
        have x1 := S.out.pb
        have hpw := x1.lt
        have e0 := x1.cell 0
        have e1 := x1.cell 1
        have e2 := x1.cell 2
        have e3 := x1.cell 3
        have e4 := x1.cell 4
        have e5 := x1.cell 5
        have e6 := x1.cell 6
        have e7 := x1.cell 7
        simp at e0 e1 e2 e3 e4 e5 e6 e7
        clear x1
        by_cases hlt : j2 < mg
        · have hltI : (j2 : Int) < mg := by omega
          have hin := (HWA.out.hD _ _ S.out.j).1
          have hBw : B ≤ wr.heap.size := Nat.le_trans HWA.out.hB (HWA.out.hD _ _ S.out.j).2
          obtain ⟨b, off, g, hA, hb, hx, hmx, hG⟩ := kgs_at hin.one.2.2.2.1.1 rfl (k := j2) (by rw [HMG.out]; exact hlt)
          have hbw : b < wr.heap.size := Nat.lt_of_lt_of_le hb hBw
          have HG := Lib.hid hG
          obtain rfl : PG = some ⟨b, off, none⟩ := HPG.out.symm.trans hA
          obtain ⟨qq, hq⟩ := HBD.out g hmx
          have HQ := Lib.hid hq
          have HGE : Hid (endsG g = (if g.kind = 3 then [(g.c, false)] else []) ++ endsP qq) := Lib.hid (by rw [endsG_eq, hq])
          have HMX := Lib.hid hmx
          have S2 := Lib.hid (S.out.alloc HWA.out (.cells g.flat 103))
          have bx := Blk.new wr 103 g.flat
          have HB := Lib.hid bx
          have HSN := Lib.hid (endsGs_snoc hx)
          have HSP := Lib.hid (endsGs_split hx)
          have hmq : qq ∈ g.body := by rw [hq]; simp
          have HC : Hid (∀ (w1 : World) (pre : List (Int × Bool)), pre = pre0 ++ ownE p ++ endsPs p.l ++ endsGs (p.g.take j2) ++ (if g.kind = 3 then [(g.c, false)] else []) → WkS W w1 X J pre #[.int .u8 p.kind, .int .i64 p.c, .int .i64 p.v, .int .u8 p.item, .slice p.At p.tos.length p.ct, .slice p.Ae p.e.length p.ce, .slice (some ⟨b, off, none⟩) mg p.cg, .slice PA m p.cl] → Calls Try.prog 37 #[.agg qq.cells, .func (.yield l) #[] #[]] w1 (RetWs W X J Jx xs pre (endsP qq) #[.int .u8 p.kind, .int .i64 p.c, .int .i64 p.v, .int .u8 p.item, .slice p.At p.tos.length p.ct, .slice p.Ae p.e.length p.ce, .slice (some ⟨b, off, none⟩) mg p.cg, .slice PA m p.cl])) := Lib.hid fun w1 pre hpre h => h.call (HIG.out g hmx qq hmq) (HWA.out.guard hmx hmq) HS0.out (rest := endsGs (p.g.drop (j2 + 1)) ++ rest) (by rw [HXS.out, HSP.out, HGE.out, hpre]; simp)
          simp only [KP.cells] at HC
          clear bx hx hmx hG hA hin hq hmq
          go_upto_region 12 with (first
            | (refine wpList_guard_load rfl _ rfl (b := b) (o := off + j2 * 18) rfl HG.out ?_)
            | (refine wpList_guard_store rfl _ _ rfl (w := wr) (g := g) rfl rfl ?_))
          generalize wr.alloc _ = w2 at *
          have bx := HB.out
          clear e0 e1 e2 e3 e4 e5 e6 e7 S HG
          have d0 := bx.cell 0
          have d7 := bx.cell 7
          have d17 := bx.cell 17
          simp [KG.flat] at d0 d7 d17
          clear bx
          by_cases h3 : g.kind = 3
          · have y3 : ((g.kind : Int) == 3) = true := by simp [h3]
            have hif : (if g.kind = 3 then [(g.c, false)] else []) = [(g.c, false)] := if_pos h3
            rw [hif] at HGE HC
            clear hif h3
            have hy := yieldAt_wide (m := 8) (HWA.out.hY (pre0 ++ ownE p ++ endsPs p.l ++ endsGs (p.g.take j2)) (g.c, false) (endsP qq ++ endsGs (p.g.drop (j2 + 1)) ++ rest) w2 S2.out.j (by rw [HXS.out, HSP.out, HGE.out]; simp))
            obtain ⟨fn, tmps, assign, body, hy1, hy2⟩ := hy
            simp only [endV] at hy1
            have HY2 := Lib.hid hy2
            clear hy2
            refine (wpIn_wide (n := 9)).1 ?_
            gi_wp2
            refine HY2.out.mono ?_
            rintro e w3 (⟨rfl, hJ3, kx⟩ | ⟨rfl, hJx3⟩)
            · have S3 := Lib.hid (S2.out.step HWA.out HS0.out hJ3 kx)
              have bx : Blk w3 wr.heap.size 103 g.flat := kx.block _ _ _ _ (fun hx => by have := HWA.out.hX _ hx; have := HS0.out; omega) HB.out
              clear hJ3 kx d0 d7 d17
              have d17 := bx.cell 17
              simp [KG.flat] at d17
              clear bx
              have hin2 := (HWA.out.hD _ _ S3.out.j).1
              obtain ⟨b2, off2, x, hA2, hb2, hx2, hmx2, c0, c1, c2, c3, c4, c5, c6, c7⟩ := kps_at (hin2.one.2.2.2.1.2 g HMX.out).2.2.2.2 rfl (k := 0) (by rw [HQ.out]; simp)
              have hq := HQ.out
              have hxq : x = qq := by rw [hq] at hx2; simpa using hx2.symm
              subst hxq
              have hbw2 : b2 < w3.heap.size := Nat.lt_of_lt_of_le hb2 (Nat.le_trans HWA.out.hB (HWA.out.hD _ _ S3.out.j).2)
              rw [hq] at d17
              rw [hA2] at d17
              rw [Nat.zero_mul, Nat.add_zero] at c0 c1 c2 c3 c4 c5 c6 c7
              simp only [List.length_singleton] at d17
              clear hq hx2 hmx2 hA2 hin2 HQ
              gi_wp2
              refine ⟨trivial, (callsIn_wide.2 (HC.out _ _ rfl S3.out)).mono ?_⟩
              rintro e1 w4 (⟨rfl, S4⟩ | ⟨rfl, HX4⟩)
              · gi_wp2
                go_wp2
                go_roundw
                case rel => exact ⟨j2 + 1, by omega, by go_num, Lib.hid (by rw [HSN.out, HGE.out, ← List.append_assoc, ← List.append_assoc]; exact S4.out)⟩
                case measure => simp [intOf]; omega
              · gi_wp2
                go_wp2
                go_ret
                exact .inr ⟨rfl, HX4.out⟩
            · have HX3 : Hid (∃ pre x r, xs = pre ++ x :: r ∧ Jx (pre ++ [x]) w3) := Lib.hid ⟨_, (g.c, false), endsP qq ++ endsGs (p.g.drop (j2 + 1)) ++ rest, by rw [HXS.out, HSP.out, HGE.out]; simp, hJx3⟩
              clear hJx3
              gi_wp2
              refine ⟨trivial, ?_⟩
              gi_wp2
              go_wp2
              go_ret
              exact .inr ⟨rfl, HX3.out⟩
          · have y3 : ((g.kind : Int) == 3) = false := by simp; omega
            have hif : (if g.kind = 3 then [(g.c, false)] else []) = [] := if_neg h3
            rw [hif] at HGE HC
            clear hif h3
            have hin2 := (HWA.out.hD _ _ S2.out.j).1
            obtain ⟨b2, off2, x, hA2, hb2, hx2, hmx2, c0, c1, c2, c3, c4, c5, c6, c7⟩ := kps_at (hin2.one.2.2.2.1.2 g HMX.out).2.2.2.2 rfl (k := 0) (by rw [HQ.out]; simp)
            have hq := HQ.out
            have hxq : x = qq := by rw [hq] at hx2; simpa using hx2.symm
            subst hxq
            have hbw2 : b2 < w2.heap.size := Nat.lt_of_lt_of_le hb2 (Nat.le_trans HWA.out.hB (HWA.out.hD _ _ S2.out.j).2)
            rw [hq] at d17
            rw [hA2] at d17
            rw [Nat.zero_mul, Nat.add_zero] at c0 c1 c2 c3 c4 c5 c6 c7
            simp only [List.length_singleton] at d17
            clear hq hx2 hmx2 hA2 hin2 HQ
            go_wp2_with (first
              | (go_at_call 37; (with_reducible refine (HC.out _ _ (by simp) S2.out).mono ?_); rintro e1 w3 (⟨rfl, S3⟩ | ⟨rfl, HX3⟩)))
            · go_roundw
              case rel => exact ⟨j2 + 1, by omega, by go_num, Lib.hid (by rw [HSN.out, HGE.out, List.nil_append, ← List.append_assoc]; exact S3.out)⟩
              case measure => simp [intOf]; omega
            · go_ret
              exact .inr ⟨rfl, HX3.out⟩
        · have hltI : ¬ (j2 : Int) < mg := by omega
          obtain rfl : mg = j2 := by omega
          have htk : p.g.take mg = p.g := List.take_of_length_le (by rw [HMG.out]; omega)
          have hst := S.out
          rw [htk] at hst
          have HST := Lib.hid hst
          clear htk hst
          go_wp2
          go_ret
          exact .inl ⟨rfl, by have := HST.out.j; simpa using this, HST.out.k⟩
theorem pWalk (p : KP) : p.all Bodies → WalkOk p := by
  induction p using KP.ind with
  | h p ihg ihl =>
    intro h
    rw [KP.all_iff] at h
    obtain ⟨h1, h2, h3⟩ := h
    exact pWalk1 p h1 (fun x hx => ihl x hx (h3 x hx)) (fun g hg x hx => ihg g hg x hx (h2 g hg x hx))
end Go.Proofs.Ytekamebpjjkifaa

/- Channels between branches, in plain words: what a valid kernel's ends are, what the map of ends holds. -/
namespace Go.Proofs.Ytekamebpjjkifaa
open Go.RowKit Go.Maps
set_option linter.unusedSimpArgs false
set_option linter.unusedVariables false

section
variable {vs : List KVar} {nc : Nat}
theorem roomPs_ends : ∀ {l : List KP} {deep left r : Nat} {high first : Bool}, (∀ p ∈ l, ∀ (d : Nat) (h : Bool) (a r : Nat), roomP vs nc d h a p = some r → (endsP p).length + 1 + 2 * r ≤ 2 * a) → roomPs vs nc deep high first left l = some r → (endsPs l).length + 2 * r ≤ 2 * left
  | [], deep, left, r, high, first, _, h => by rw [roomPs] at h; cases h; rw [endsPs]; simp
  | x :: l, deep, left, r, high, first, hall, h => by
    rw [roomPs] at h
    cases hx : roomP vs nc deep (high || first) left x with
    | none => rw [hx] at h; cases h
    | some y =>
      rw [hx] at h
      have h1 := hall x (by simp) _ _ _ _ hx
      have h2 := roomPs_ends (fun p hp => hall p (by simp [hp])) h
      rw [endsPs, List.length_append]
      omega
theorem roomGs_ends : ∀ {l : List KG} {deep left r : Nat} {high : Bool}, (∀ g ∈ l, ∃ q, g.body = [q] ∧ ∀ (d : Nat) (h : Bool) (a r : Nat), roomP vs nc d h a q = some r → (endsP q).length + 1 + 2 * r ≤ 2 * a) → roomGs vs nc deep high left l = some r → (endsGs l).length + 2 * r ≤ 2 * left
  | [], deep, left, r, high, _, h => by rw [roomGs] at h; cases h; rw [endsGs]; simp
  | x :: l, deep, left, r, high, hall, h => by
    rw [roomGs] at h
    cases hx : roomG vs nc deep high left x with
    | none => rw [hx] at h; cases h
    | some y =>
      rw [hx] at h
      obtain ⟨q, hq, hb⟩ := hall x (by simp)
      rw [roomG_eq, hq] at hx
      have h1 := hb _ _ _ _ hx
      have h2 := roomGs_ends (fun p hp => hall p (by simp [hp])) h
      have h3 : endsG x = (if x.kind = 3 then [(x.c, false)] else []) ++ endsP q := by rw [endsG_eq, hq]
      have h4 : (if x.kind = 3 then [(x.c, false)] else []).length ≤ 1 := by split <;> simp
      rw [endsGs, List.length_append, h3, List.length_append]
      omega
/-- A valid process has no more than two ends for each process in it. -/
theorem roomP_ends (p : KP) : ∀ (d : Nat) (h : Bool) (a r : Nat), roomP vs nc d h a p = some r → (endsP p).length + 1 + 2 * r ≤ 2 * a := by
  induction p using KP.ind with
  | h p ih1 ih2 =>
    intro d h a r hr
    rw [roomP_eq] at hr
    split at hr
    · cases hr
    · rename_i hc
      have hck : checkB vs nc p = true := by cases hf : checkB vs nc p with | true => rfl | false => rw [hf] at hc; simp at hc
      have ha : a ≠ 0 := by intro h0; rw [h0] at hc; simp at hc
      cases hx : roomPs vs nc (d + 1) h (p.kind == 11) (a - 1) p.l with
      | none => rw [hx] at hr; cases hr
      | some m =>
        rw [hx] at hr
        have h1 := roomPs_ends (fun q hq => ih2 q hq) hx
        have h2 := roomGs_ends (fun g hg => by
          obtain ⟨ch, hgb⟩ := checkB_guards hck g hg
          obtain ⟨q, hq⟩ := guardB_body hgb
          exact ⟨q, hq, ih1 g hg q (by rw [hq]; simp)⟩) hr
        have h4 : (if p.kind = 6 then [(p.c, true)] else if p.kind = 5 then [(p.c, false)] else []).length ≤ 1 := by
          split
          · simp
          · split <;> simp
        rw [endsP_eq, List.length_append, List.length_append]
        omega
theorem roomPs_len : ∀ {l : List KP} {deep left r : Nat} {high first : Bool}, roomPs vs nc deep high first left l = some r → l.length + r ≤ left
  | [], deep, left, r, high, first, h => by rw [roomPs] at h; cases h; simp
  | x :: l, deep, left, r, high, first, h => by
    rw [roomPs] at h
    cases hx : roomP vs nc deep (high || first) left x with
    | none => rw [hx] at h; cases h
    | some y =>
      rw [hx] at h
      have h1 := roomP_ends _ _ _ _ _ hx
      have h2 := roomPs_len h
      rw [List.length_cons]
      omega
end
/-- What is known of a valid kernel. -/
structure MayF (k : KK) : Prop where
  c2 : 2 ≤ k.chans.length
  c64 : k.chans.length ≤ 64
  chk : k.root.all (fun x => checkB k.vars k.chans.length x = true)
  short : (endsP k.root).length ≤ 4095
  pr : k.procs.length = 0 ∨ (k.root.kind = 10 ∧ k.root.l.length = k.procs.length)
  bl : k.root.l.length ≤ 2048
theorem mayF {k : KK} (h : mayK k = true) : MayF k := by
  unfold mayK at h
  simp only [Bool.and_eq_true, decide_eq_true_eq] at h
  obtain ⟨⟨⟨⟨⟨h1, h2, h3⟩, h4⟩, -⟩, -⟩, h5⟩ := h
  obtain ⟨r, hr⟩ := Option.isSome_iff_exists.1 h5
  refine ⟨h2, h3, roomP_all _ hr, by have := roomP_ends _ _ _ _ _ hr; omega, ?_, ?_⟩
  rotate_left
  · rw [roomP_eq] at hr
    split at hr
    · cases hr
    · cases hx : roomPs k.vars k.chans.length (0 + 1) false (k.root.kind == 11) (2048 - 1) k.root.l with
      | none => rw [hx] at hr; cases hr
      | some m => have := roomPs_len hx; omega
  unfold placedB at h4
  simp only [Bool.or_eq_true, Bool.and_eq_true, decide_eq_true_eq, beq_iff_eq] at h4
  rcases h4 with h4 | h4
  · exact .inl h4
  · exact .inr ⟨h4.1.2, h4.2⟩
theorem bodies_of {vs : List KVar} {nc : Nat} {p : KP} (h : p.all (fun x => checkB vs nc x = true)) : p.all Bodies := KP.all_imp (fun q hq g hg => by
  obtain ⟨ch, hgb⟩ := checkB_guards hq g hg
  exact guardB_body hgb) p h
theorem MayF.branch {k : KK} (h : MayF k) : ∀ p ∈ branchesK k, p.all (fun x => checkB k.vars k.chans.length x = true) := by
  intro p hp
  unfold branchesK at hp
  split at hp
  · obtain rfl := List.mem_singleton.1 hp
    exact h.chk
  · exact (KP.all_iff.1 h.chk).2.2 p hp
theorem MayF.ends {k : KK} (h : MayF k) {p : KP} (hp : p ∈ branchesK k) : ∀ x ∈ endsP p, 0 ≤ x.1 ∧ x.1 < k.chans.length := ends_in p (h.branch p hp)
theorem MayF.few {k : KK} (h : MayF k) : (endsPs (branchesK k)).length ≤ 4095 := by
  unfold branchesK
  split
  · rw [endsPs, endsPs, List.append_nil]; exact h.short
  · have := h.short
    rw [endsP_eq, List.length_append, List.length_append] at this
    omega
theorem MayF.nbs {k : KK} (h : MayF k) : (branchesK k).length ≤ 2048 := by
  unfold branchesK
  split
  · simp
  · exact h.bl
theorem endsPs_take_len (l : List KP) (j : Nat) : (endsPs (l.take j)).length ≤ (endsPs l).length := by
  have h : endsPs l = endsPs (l.take j) ++ endsPs (l.drop j) := by rw [← endsPs_append, List.take_append_drop]
  rw [h, List.length_append]
  omega
/-- What one channel gives, out of the branches of its ends. -/
def rowC (from_ dst : Option Nat) (c : Nat) : List (Int × Int × Int) :=
  if c = 0 then (match dst with | some i => [(0, -1, (i : Int))] | none => [])
  else if c = 1 then (match from_ with | some i => [(1, (i : Int), -1)] | none => [])
  else match from_, dst with
    | some i, some j => if i ≠ j then [((c : Int), (i : Int), (j : Int))] else []
    | _, _ => []
theorem betweenC_un {bs : List KP} {c : Nat} (h1 : (usersL ((c : Int), true) 0 bs).length ≤ 1) (h2 : (usersL ((c : Int), false) 0 bs).length ≤ 1) : betweenC bs c = some (rowC (usersL ((c : Int), true) 0 bs).head? (usersL ((c : Int), false) 0 bs).head? c) := by
  unfold betweenC rowC
  generalize usersL ((c : Int), true) 0 bs = a at *
  generalize usersL ((c : Int), false) 0 bs = b at *
  match a, b, h1, h2 with
  | [], [], _, _ => simp
  | [], [y], _, _ => simp
  | [x], [], _, _ => simp
  | [x], [y], _, _ => simp
  | _ :: _ :: _, _, h, _ => simp at h
  | _, _ :: _ :: _, _, h => simp at h
theorem betweenC_clash {bs : List KP} {c : Nat} {o : Bool} (h : 2 ≤ (usersL ((c : Int), o) 0 bs).length) : betweenC bs c = none := by
  unfold betweenC
  cases o with
  | true =>
    generalize usersL ((c : Int), true) 0 bs = a at *
    match a, h with
    | _ :: _ :: _, _ => rfl
    | [x], h => simp at h
    | [], h => simp at h
  | false =>
    generalize usersL ((c : Int), false) 0 bs = b at *
    generalize usersL ((c : Int), true) 0 bs = a at *
    match b, h with
    | _ :: _ :: _, _ => match a with
      | _ :: _ :: _ => rfl
      | [] => rfl
      | [_] => rfl
    | [x], h => simp at h
    | [], h => simp at h
theorem betweenN_none {bs : List KP} : ∀ {n c : Nat}, c < n → betweenC bs c = none → betweenN bs n = none
  | 0, c, h, _ => absurd h (by omega)
  | n + 1, c, h, hc => by
    rw [betweenN]
    rcases Nat.lt_succ_iff_lt_or_eq.1 h with h | rfl
    · rw [betweenN_none h hc]
    · rw [hc]
      cases betweenN bs c <;> rfl
theorem betweenN_clash {bs : List KP} {n : Nat} {x : Int × Bool} (h0 : 0 ≤ x.1) (h1 : x.1 < n) (h : 2 ≤ (usersL x 0 bs).length) : betweenN bs n = none := by
  obtain ⟨c, o⟩ := x
  obtain ⟨m, rfl⟩ := Int.eq_ofNat_of_zero_le h0
  exact betweenN_none (c := m) (by simp at h1; omega) (betweenC_clash h)
theorem betweenN_snoc {bs : List KP} {n : Nat} {l m : List (Int × Int × Int)} (h : betweenN bs n = some l) (hc : betweenC bs n = some m) : betweenN bs (n + 1) = some (l ++ m) := by
  rw [betweenN, h, hc]
theorem rowC_len (a b : Option Nat) (c : Nat) : (rowC a b c).length ≤ 1 := by
  unfold rowC
  split
  · split <;> simp
  · split
    · split <;> simp
    · split
      · split <;> simp
      · simp
theorem betweenN_len {bs : List KP} : ∀ {n : Nat} {l : List (Int × Int × Int)}, betweenN bs n = some l → l.length ≤ n
  | 0, l, h => by rw [betweenN] at h; cases h; simp
  | n + 1, l, h => by
    rw [betweenN] at h
    cases h1 : betweenN bs n with
    | none => rw [h1] at h; cases h
    | some a =>
      rw [h1] at h
      cases h2 : betweenC bs n with
      | none => rw [h2] at h; cases h
      | some b =>
        rw [h2] at h
        cases h
        have h3 := betweenN_len h1
        have h4 : b.length ≤ 1 := by
          by_cases hc1 : 2 ≤ (usersL ((n : Int), true) 0 bs).length
          · rw [betweenC_clash hc1] at h2; cases h2
          · by_cases hc2 : 2 ≤ (usersL ((n : Int), false) 0 bs).length
            · rw [betweenC_clash hc2] at h2; cases h2
            · rw [betweenC_un (by omega) (by omega)] at h2
              cases h2
              exact rowC_len _ _ _
        rw [List.length_append]
        omega
/-- What the map of ends holds when the branches ahead of j, and the ends pre of branch j, are done. -/
def endF (bs : List KP) (j : Nat) (pre : List (Int × Bool)) (x : Int × Bool) : Option Nat := if x ∈ pre then some j else (usersL x 0 (bs.take j)).head?
def litO (o : Option Nat) : Option (DataW Unit) := o.map fun i => .lit (.int .i64 (i : Int))
theorem usersL_lt {x : Int × Bool} {bs : List KP} {j i : Nat} (h : i ∈ usersL x 0 (bs.take j)) : i < j := by
  obtain ⟨-, p, hp, -⟩ := usersL_mem.1 h
  have := (List.getElem?_eq_some_iff.1 hp).1
  rw [List.length_take] at this
  omega
theorem endF_start (bs : List KP) (j : Nat) (x : Int × Bool) : endF bs j [] x = (usersL x 0 (bs.take j)).head? := by
  unfold endF
  rw [if_neg (by simp)]
theorem endF_snoc (bs : List KP) (j : Nat) (pre : List (Int × Bool)) (x y : Int × Bool) : endF bs j (pre ++ [x]) y = if y = x then some j else endF bs j pre y := by
  unfold endF
  by_cases h : y = x
  · subst h; simp
  · simp [h]
theorem endF_end {bs : List KP} {j : Nat} {p : KP} (hp : bs[j]? = some p) (hun : ∀ x ∈ endsP p, usersL x 0 (bs.take j) = []) (y : Int × Bool) : endF bs j (endsP p) y = endF bs (j + 1) [] y := by
  rw [endF_start, usersL_snoc hp]
  unfold endF
  by_cases h : y ∈ endsP p
  · rw [if_pos h, if_pos h, hun y h]
    rfl
  · rw [if_neg h, if_neg h, List.append_nil]
theorem unclash_snoc {bs : List KP} {j : Nat} {p : KP} (hp : bs[j]? = some p) (hun : ∀ x ∈ endsP p, usersL x 0 (bs.take j) = []) (h : Unclash (bs.take j)) : Unclash (bs.take (j + 1)) := by
  intro x
  rw [usersL_snoc hp, List.length_append]
  by_cases hx : x ∈ endsP p
  · rw [hun x hx, if_pos hx]; simp
  · rw [if_neg hx]; have := h x; simp; omega
/-- A clash: the end x of branch j is one of a branch ahead, too. -/
theorem clash_of {bs : List KP} {j : Nat} {p : KP} (hp : bs[j]? = some p) {x : Int × Bool} (hx : x ∈ endsP p) {i : Nat} (hi : (usersL x 0 (bs.take j)).head? = some i) : 2 ≤ (usersL x 0 bs).length := by
  have h1 : usersL x 0 bs = usersL x 0 (bs.take (j + 1)) ++ usersL x (0 + (bs.take (j + 1)).length) (bs.drop (j + 1)) := by rw [← usersL_append, List.take_append_drop]
  have h2 : usersL x 0 (bs.take j) ≠ [] := by intro h; rw [h] at hi; cases hi
  have h3 := List.length_pos_iff.2 h2
  rw [h1, usersL_snoc hp, if_pos hx]
  simp
  omega
end Go.Proofs.Ytekamebpjjkifaa
