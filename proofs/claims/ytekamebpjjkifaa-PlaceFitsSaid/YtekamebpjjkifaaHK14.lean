/- Texts that belong together, joined: what each one holds is told ahead of it. -/
import Derived.Test.YtekamebpjjkifaaHK13
import Derived.Test.YtekamebpjjkifaaHK9
import Derived.Great.BuildSlice
/- The document's words on inputs and outputs, walked. -/
namespace Go.Proofs.Ytekamebpjjkifaa
open Go.RowKit
set_option linter.unusedSimpArgs false
set_option linter.unusedVariables false

/-- A kernel as a value: flat. -/
def KK.flat (k : KK) : Array Value := #[.slice k.Av k.vars.length k.cv, .slice k.Ac k.chans.length k.cc, .int .u8 k.root.kind, .int .i64 k.root.c, .int .i64 k.root.v, .int .u8 k.root.item, .slice k.root.At k.root.tos.length k.root.ct, .slice k.root.Ae k.root.e.length k.root.ce,
  .slice k.root.Ag k.root.g.length k.root.cg, .slice k.root.Al k.root.l.length k.root.cl, .slice k.Ap k.procs.length k.cp]
theorem KK.flat_eq (k : KK) : k.flat = k.row.toArray := rfl
theorem inputB_ref (vs : List KVar) (nc : Nat) (c : Int) (item : Nat) (p : KPl) : inputB vs nc c item p = (decide (0 ≤ c ∧ c < nc ∧ c ≠ 1) && (decide (0 < c) || item == 1) && primB item && placeB vs p item) := by
  unfold inputB channelB
  congr 1
  rw [Bool.and_right_comm]
  congr 1
  by_cases h : 0 ≤ c ∧ c < nc ∧ c ≠ 1
  · have e : decide (1 < c) = decide (0 < c) := by rw [decide_eq_decide]; omega
    rw [e]
  · rw [decide_eq_false h]; rfl
set_option maxRecDepth 100000 in
set_option maxHeartbeats 2000000 in
theorem rInput (k : KK) (c : Int) (item : Nat) (p : KPl) (B : Nat) (w : World) (hk : k.In w B) (ok : KOk k) (hi : p.In w B) (hB : B ≤ w.heap.size) :
    Calls Try.prog 50 #[.agg k.flat, .int .i64 c, .int .u8 item, .agg p.cells] w (RetV (.bool (inputB k.vars k.chans.length c item p)) w) := by
  obtain ⟨W0, hW0⟩ : ∃ W, (w.alloc (.cells k.flat 34)).alloc (.cells p.cells 101) = W := ⟨_, rfl⟩
  obtain ⟨l1, l2, l3⟩ := lay2 w k.flat p.cells 34 101
  rw [hW0] at l1 l2 l3
  have HK0 := Lib.hid l1
  have HPl := Lib.hid (rPlace16 k.vars p item k.Av k.cv B W0 (hk.1.2.1.below (l1.mono hB)) ok.nv (hi.below (l1.mono hB)) (Nat.le_trans hB l1.size))
  have HPr := Lib.hid (rPrim item W0)
  have HR := Lib.hid (inputB_ref k.vars k.chans.length c item p)
  generalize inputB k.vars k.chans.length c item p = R at *
  generalize placeB k.vars p item = pb at *
  simp only [KK.flat, KPl.cells] at hW0 l2 l3 HPl ⊢
  have e0 := l2.cell 0
  have e1 := l2.cell 1
  simp at e0 e1
  have f0 := l3.cell 0
  have f1 := l3.cell 1
  simp at f0 f1
  clear l1 l2 l3 hk ok hi
  generalize k.chans.length = nc at *
  by_cases h1 : 0 ≤ c
  · by_cases h2 : c < (nc : Int)
    · by_cases h3 : c = 1
      · have HC := Lib.hid h3
        subst h3
        go_enter Try.func50, Try.ntmps50
        go_wp2
        go_ret
        exact ⟨by refine ret_bool rfl ?_; rw [HR.out]; simp, HK0.out⟩
      · obtain ⟨d, hd⟩ : ∃ d : Bool, (decide (0 < c) || item == 1) = d := ⟨_, rfl⟩
        have HR2 : Hid (R = (d && primB item && pb)) := Lib.hid (by rw [HR.out, decide_eq_true ⟨h1, h2, h3⟩, hd]; rfl)
        clear HR
        cases d with
        | false =>
          have g1 : ¬ 0 < c := by rintro h; simp [h] at hd
          have g2 : ((item : Int) == 1) = false := by rw [decide_eq_false g1] at hd; simp at hd ⊢; omega
          clear hd
          go_enter Try.func50, Try.ntmps50
          go_wp2
          go_ret
          exact ⟨by refine ret_bool rfl ?_; rw [HR2.out]; simp, HK0.out⟩
        | true =>
          have hg : 0 < c ∨ ¬ 0 < c ∧ ((item : Int) == 1) = true := by
            by_cases h : 0 < c
            · exact .inl h
            · rw [decide_eq_false h] at hd; simp at hd; exact .inr ⟨h, by simp [hd]⟩
          clear hd
          generalize primB item = pr at *
          rcases hg with g1 | ⟨g1, g2⟩ <;> cases pr
          all_goals
            go_enter Try.func50, Try.ntmps50
            go_wp2_with (first
              | (go_at_call 28; (with_reducible refine HPr.out.mono ?_); rintro e1 w1 ⟨rfl, rfl⟩)
              | (go_at_call 48; (with_reducible refine HPl.out.mono ?_); rintro e2 w2 ⟨rfl, hb2⟩))
            go_ret
            first
              | exact ⟨by refine ret_bool rfl ?_; rw [HR2.out]; simp, HK0.out⟩
              | exact ⟨by refine ret_bool rfl ?_; rw [HR2.out]; simp [h3], HK0.out.trans (hb2.mono HK0.out.size)⟩
    · have HR2 : Hid (R = false) := Lib.hid (by rw [HR.out, decide_eq_false (by omega)]; rfl)
      go_enter Try.func50, Try.ntmps50
      go_wp2
      go_ret
      exact ⟨by refine ret_bool rfl ?_; rw [HR2.out], HK0.out⟩
  · have HR2 : Hid (R = false) := Lib.hid (by rw [HR.out, decide_eq_false (by omega)]; rfl)
    go_enter Try.func50, Try.ntmps50
    go_wp2
    go_ret
    exact ⟨by refine ret_bool rfl ?_; rw [HR2.out], HK0.out⟩
theorem outputB_ref (vs : List KVar) (nc : Nat) (c : Int) (item : Nat) (e : KE) : (channelB nc c item 0 && FitsB vs e item) = (decide (0 < c ∧ c < nc) && (decide (1 < c) || item == 1) && primB item && FitsB vs e item) := by
  unfold channelB
  congr 1
  rw [Bool.and_right_comm]
  congr 2
  rw [decide_eq_decide]; omega
set_option maxRecDepth 100000 in
set_option maxHeartbeats 2000000 in
theorem rOutput (k : KK) (c : Int) (item : Nat) (e : KE) (B : Nat) (w : World) (hk : k.In w B) (ok : KOk k) (hi : e.In w B) (hB : B ≤ w.heap.size) :
    Calls Try.prog 51 #[.agg k.flat, .int .i64 c, .int .u8 item, .agg e.cells] w (RetV (.bool (channelB k.chans.length c item 0 && FitsB k.vars e item)) w) := by
  obtain ⟨W0, hW0⟩ : ∃ W, (w.alloc (.cells k.flat 34)).alloc (.cells e.cells 99) = W := ⟨_, rfl⟩
  obtain ⟨l1, l2, l3⟩ := lay2 w k.flat e.cells 34 99
  rw [hW0] at l1 l2 l3
  have HK0 := Lib.hid l1
  have HFt := Lib.hid (fun (hp : primB item = true) => show Calls Try.prog 49 #[.slice k.Av k.vars.length k.cv, .agg e.cells, .int .u8 item] W0 (RetV (.bool (FitsB k.vars e item)) W0) from
    rFitsV k.vars e item (by rcases primB_cases hp with h | h | h <;> simp [h]) k.Av k.cv B W0 (hk.1.2.1.below (l1.mono hB)) ok.nv (hi.below (l1.mono hB)) (Nat.le_trans hB l1.size))
  have HPr := Lib.hid (rPrim item W0)
  have HR := Lib.hid (outputB_ref k.vars k.chans.length c item e)
  generalize (channelB k.chans.length c item 0 && FitsB k.vars e item) = R at *
  generalize FitsB k.vars e item = pb at *
  simp only [KK.flat, KE.cells] at hW0 l2 l3 HFt ⊢
  have q0 := l2.cell 0
  have q1 := l2.cell 1
  simp at q0 q1
  have f0 := l3.cell 0
  have f1 := l3.cell 1
  have f2 := l3.cell 2
  have f3 := l3.cell 3
  have f4 := l3.cell 4
  have f5 := l3.cell 5
  simp at f0 f1 f2 f3 f4 f5
  clear l1 l2 l3 hk ok hi
  generalize k.chans.length = nc at *
  by_cases h1 : 0 < c
  · by_cases h2 : c < (nc : Int)
    · obtain ⟨d, hd⟩ : ∃ d : Bool, (decide (1 < c) || item == 1) = d := ⟨_, rfl⟩
      have HR2 : Hid (R = (d && primB item && pb)) := Lib.hid (by rw [HR.out, decide_eq_true ⟨h1, h2⟩, hd]; rfl)
      clear HR
      cases d with
      | false =>
        have g1 : ¬ 1 < c := by rintro h; simp [h] at hd
        have g2 : ((item : Int) == 1) = false := by rw [decide_eq_false g1] at hd; simp at hd ⊢; omega
        clear hd
        go_enter Try.func51, Try.ntmps51
        go_wp2
        go_ret
        exact ⟨by refine ret_bool rfl ?_; rw [HR2.out]; simp, HK0.out⟩
      | true =>
        have hg : 1 < c ∨ ¬ 1 < c ∧ ((item : Int) == 1) = true := by
          by_cases h : 1 < c
          · exact .inl h
          · rw [decide_eq_false h] at hd; simp at hd; exact .inr ⟨h, by simp [hd]⟩
        clear hd
        cases hp : primB item with
        | false =>
          rw [hp] at HPr HR2
          clear hp HFt
          rcases hg with g1 | ⟨g1, g2⟩
          all_goals
            go_enter Try.func51, Try.ntmps51
            go_wp2_with (first
              | (go_at_call 28; (with_reducible refine HPr.out.mono ?_); rintro e1 w1 ⟨rfl, rfl⟩))
            go_ret
            exact ⟨by refine ret_bool rfl ?_; rw [HR2.out]; simp, HK0.out⟩
        | true =>
          have HFx := Lib.hid (HFt.out hp)
          rw [hp] at HPr HR2
          clear hp HFt
          rcases hg with g1 | ⟨g1, g2⟩
          all_goals
            go_enter Try.func51, Try.ntmps51
            go_wp2_with (first
              | (go_at_call 28; (with_reducible refine HPr.out.mono ?_); rintro e1 w1 ⟨rfl, rfl⟩)
              | (go_at_call 49; (with_reducible refine HFx.out.mono ?_); rintro e2 w2 ⟨rfl, hb2⟩))
            go_ret
            exact ⟨by refine ret_bool rfl ?_; rw [HR2.out]; simp, HK0.out.trans (hb2.mono HK0.out.size)⟩
    · have HR2 : Hid (R = false) := Lib.hid (by rw [HR.out, decide_eq_false (by omega)]; rfl)
      go_enter Try.func51, Try.ntmps51
      go_wp2
      go_ret
      exact ⟨by refine ret_bool rfl ?_; rw [HR2.out], HK0.out⟩
  · have HR2 : Hid (R = false) := Lib.hid (by rw [HR.out, decide_eq_false (by omega)]; rfl)
    go_enter Try.func51, Try.ntmps51
    go_wp2
    go_ret
    exact ⟨by refine ret_bool rfl ?_; rw [HR2.out], HK0.out⟩
end Go.Proofs.Ytekamebpjjkifaa

/- The ends of a process as a sequence; the branches of a kernel: walked, in the program and in the document. -/
namespace Go.Proofs.Ytekamebpjjkifaa
open Go.RowKit
set_option linter.unusedSimpArgs false
set_option linter.unusedVariables false

theorem pEnds (p : KP) (w : World) : Calls Try.prog 22 #[.agg p.cells] w fun e w' => e = .returned (.func (.func 36) #[] #[.pointer (some ⟨w.heap.size, 0, none⟩)]) ∧ w' = w.alloc (.cells p.cells 31) := by
  simp only [KP.cells]
  go_enter Try.func22, Try.ntmps22
  go_wp2
  go_ret
  exact ⟨rfl, rfl⟩
set_option maxRecDepth 100000 in
set_option maxHeartbeats 4000000 in
theorem pEnds1_walk (p : KP) (hb : p.all Bodies) (g l B : Nat) (X : Nat → Prop) (J Jx : List (Int × Bool) → World → Prop) (W : World) (bg : Blk W g 31 p.cells) (hw : WalkAt p l B W.heap.size X J Jx (endsP p)) (h0 : J [] W) :
    Calls Try.prog 36 #[.func (.yield l) #[] #[], .pointer (some ⟨g, 0, none⟩)] W (fun e W' => (∃ v, e = .returned v) ∧ (J (endsP p) W' ∨ ∃ pre x r, endsP p = pre ++ x :: r ∧ Jx (pre ++ [x]) W')) := by
  have HC := Lib.hid (pWalk p hb l B W.heap.size X J Jx (endsP p) [] [] W hw (by simp) h0)
  clear hw h0 hb
  obtain ⟨xs, hxs⟩ : ∃ q, endsP p = q := ⟨_, rfl⟩
  simp only [hxs] at HC ⊢
  clear hxs
  simp only [KP.cells] at bg HC
  have e0 := bg.cell 0
  have e1 := bg.cell 1
  have e2 := bg.cell 2
  have e3 := bg.cell 3
  have e4 := bg.cell 4
  have e5 := bg.cell 5
  have e6 := bg.cell 6
  have e7 := bg.cell 7
  simp at e0 e1 e2 e3 e4 e5 e6 e7
  clear bg
  go_enter Try.func36, Try.ntmps36
  go_wp2_with (first
    | (go_at_call 37; (with_reducible refine HC.out.mono ?_); rintro e1 w3 (⟨rfl, hj, hk⟩ | ⟨rfl, hx⟩)))
  · go_end0
    exact ⟨⟨_, rfl⟩, .inl (by simpa using hj)⟩
  · go_end0
    exact ⟨⟨_, rfl⟩, .inr hx⟩
theorem pEnds1 (p : KP) (hb : p.all Bodies) (g B n : Nat) (X : Nat → Prop) (w : World) (bg : Blk w g 31 p.cells) (hX : ∀ k, X k → k < w.heap.size) (hB : B ≤ w.heap.size) :
    SeqUntilD Fence.wide n Try.prog 36 #[.pointer (some ⟨g, 0, none⟩)] (fun x => #[endV x]) X (fun W => p.In W B) (endsP p) w := by
  intro l J Jx W hbel hJ hJx hD hY h0
  have hsz := hbel.size
  refine callsIn_wide.2 ?_
  refine (pEnds1_walk p hb g l B X (fun pre W1 => J pre W1 ∧ W.heap.size ≤ W1.heap.size) Jx W (bg.below hbel bg.lt) ⟨fun k hk => Nat.lt_of_lt_of_le (hX k hk) hsz, Nat.le_trans hB hsz, fun s A C h hb => ⟨hJ s A C h.1 hb, Nat.le_trans h.2 hb.size⟩, hJx, fun pre W1 h => ⟨hD pre W1 h.1, h.2⟩, fun pre x r W1 h hxs => ?_⟩ ⟨h0, Nat.le_refl _⟩).mono ?_
  · obtain ⟨fn, tmps, assign, body, h1, h2⟩ := yieldAt_wide (m := 0) (hY pre x r W1 h.1 hxs)
    refine ⟨fn, tmps, assign, body, h1, h2.mono ?_⟩
    rintro e W' (⟨rfl, hj, hk⟩ | ⟨rfl, hx⟩)
    · exact .inl ⟨rfl, ⟨hj, Nat.le_trans h.2 hk.size⟩, hk⟩
    · exact .inr ⟨rfl, hx⟩
  · rintro e W' ⟨hv, hj | hx⟩
    · exact ⟨hv, .inl hj.1⟩
    · exact ⟨hv, .inr hx⟩
theorem Reads.of_whole {w : World} {g n size : Nat} {t : TypeId} {cs : Array Value} (hb : Blk w g t cs) (hl : cs.size = n * size) : Reads w w.heap.size size (some ⟨g, 0, none⟩) n cs.toList := by
  refine ⟨by simpa using hl, fun _ => ⟨_, rfl, hb.lt, fun j u hu => ?_⟩⟩
  have := hb.cell j
  have hadd : (⟨g, 0, none⟩ : Addr).add j = ⟨g, j, none⟩ := by unfold Addr.add; split <;> simp_all
  rw [hadd, this]; simpa using hu
/-- What branches answers. -/
def RetBr (k : KK) (w : World) (e : Ending) (w' : World) : Prop :=
  Below w.heap.size w w' ∧ ∃ (A : Option Addr) (c : Nat), e = .returned (.slice A (branchesK k).length c) ∧ Reads w' w'.heap.size 8 A (branchesK k).length (kpsC (branchesK k))
theorem proc_info8 : (Try.prog.info? 31).map (fun i => (i.zero, i.size, i.bytes)) = some (some (.agg #[.int .u8 0, .int .i64 0, .int .i64 0, .int .u8 0, .slice none 0 0, .slice none 0 0, .slice none 0 0, .slice none 0 0]), 8, 128) := by kernel_rfl
set_option maxRecDepth 100000 in
set_option maxHeartbeats 4000000 in
theorem pBranches (k : KK) (B : Nat) (w : World) (hk : k.In w B) (hB : B ≤ w.heap.size) : Calls Try.prog 21 #[.agg k.flat] w (RetBr k w) := by
  obtain ⟨W0, hW0⟩ : ∃ W, w.alloc (.cells k.flat 34) = W := ⟨_, rfl⟩
  have b0 : Blk W0 w.heap.size 34 k.flat := by rw [← hW0]; exact Blk.new w _ _
  have K0 : Below w.heap.size w W0 := by rw [← hW0]; exact (Below.refl _ _).alloc (Nat.le_refl _) _
  have HK0 := Lib.hid K0
  have HR := Lib.hid (hk.2.2.1.one.2.2.2.2.below (K0.mono hB))
  have hlen := hk.2.2.2.1
  unfold lenOk at hlen
  obtain ⟨m, hm⟩ : ∃ q, k.procs.length = q := ⟨_, rfl⟩
  have HM := Lib.hid hm
  have HB := Lib.hid hB
  rw [hm] at hlen
  simp only [KK.flat, hm] at b0 hW0 ⊢
  have e0 := b0.cell 0
  have e1 := b0.cell 1
  have e2 := b0.cell 2
  have e3 := b0.cell 3
  have e4 := b0.cell 4
  have e5 := b0.cell 5
  have e6 := b0.cell 6
  have e7 := b0.cell 7
  have e8 := b0.cell 8
  have e9 := b0.cell 9
  have e10 := b0.cell 10
  simp at e0 e1 e2 e3 e4 e5 e6 e7 e8 e9 e10
  clear b0 K0 hk hm
  by_cases h0 : m = 0
  · have hbr : branchesK k = [k.root] := by unfold branchesK; rw [if_pos (by rw [HM.out]; exact h0)]
    have HBR := Lib.hid hbr
    have y : ((m : Int) == 0) = true := by simp [h0]
    clear h0 hbr
    go_enter Try.func21, Try.ntmps21
    go_wp2
    go_ret
    refine ⟨HK0.out.alloc HK0.out.size _, some ⟨W0.heap.size, 0, none⟩, 1, by rw [HBR.out]; rfl, ?_⟩
    rw [HBR.out]
    exact Reads.of_whole (Blk.new W0 31 k.root.cells) rfl
  · have hbr : branchesK k = k.root.l := by unfold branchesK; rw [if_neg (by rw [HM.out]; exact h0)]
    have HBR := Lib.hid hbr
    have y : ((m : Int) == 0) = false := by simp; omega
    clear h0 hbr
    go_enter Try.func21, Try.ntmps21
    go_wp2
    go_ret
    exact ⟨HK0.out, k.root.Al, k.root.cl, by rw [HBR.out]; rfl, by rw [HBR.out]; exact HR.out.more (Nat.le_trans HB.out HK0.out.size)⟩
set_option maxRecDepth 100000 in
set_option maxHeartbeats 4000000 in
theorem rBranches (k : KK) (B : Nat) (w : World) (hk : k.In w B) (hB : B ≤ w.heap.size) : Calls Try.prog 38 #[.agg k.flat] w (RetBr k w) := by
  obtain ⟨W0, hW0⟩ : ∃ W, w.alloc (.cells k.flat 34) = W := ⟨_, rfl⟩
  have b0 : Blk W0 w.heap.size 34 k.flat := by rw [← hW0]; exact Blk.new w _ _
  have K0 : Below w.heap.size w W0 := by rw [← hW0]; exact (Below.refl _ _).alloc (Nat.le_refl _) _
  have HK0 := Lib.hid K0
  have HR := Lib.hid (hk.2.2.1.one.2.2.2.2.below (K0.mono hB))
  have hlen := hk.2.2.2.1
  unfold lenOk at hlen
  obtain ⟨m, hm⟩ : ∃ q, k.procs.length = q := ⟨_, rfl⟩
  have HM := Lib.hid hm
  have HB := Lib.hid hB
  rw [hm] at hlen
  simp only [KK.flat, hm] at b0 hW0 ⊢
  have e0 := b0.cell 0
  have e1 := b0.cell 1
  have e2 := b0.cell 2
  have e3 := b0.cell 3
  have e4 := b0.cell 4
  have e5 := b0.cell 5
  have e6 := b0.cell 6
  have e7 := b0.cell 7
  have e8 := b0.cell 8
  have e9 := b0.cell 9
  have e10 := b0.cell 10
  simp at e0 e1 e2 e3 e4 e5 e6 e7 e8 e9 e10
  clear b0 K0 hk hm
  by_cases h0 : m = 0
  · have hbr : branchesK k = [k.root] := by unfold branchesK; rw [if_pos (by rw [HM.out]; exact h0)]
    have HBR := Lib.hid hbr
    have y : ((m : Int) == 0) = true := by simp [h0]
    clear h0 hbr
    go_enter Try.func38, Try.ntmps38
    go_wp2
    go_ret
    refine ⟨HK0.out.alloc HK0.out.size _, some ⟨W0.heap.size, 0, none⟩, 1, by rw [HBR.out]; rfl, ?_⟩
    rw [HBR.out]
    exact Reads.of_whole (Blk.new W0 31 k.root.cells) rfl
  · have hbr : branchesK k = k.root.l := by unfold branchesK; rw [if_neg (by rw [HM.out]; exact h0)]
    have HBR := Lib.hid hbr
    have y : ((m : Int) == 0) = false := by simp; omega
    clear h0 hbr
    go_enter Try.func38, Try.ntmps38
    go_wp2
    go_ret
    exact ⟨HK0.out, k.root.Al, k.root.cl, by rw [HBR.out]; rfl, by rw [HBR.out]; exact HR.out.more (Nat.le_trans HB.out HK0.out.size)⟩
end Go.Proofs.Ytekamebpjjkifaa
