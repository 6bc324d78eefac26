/- Texts that belong together, joined: what each one holds is told ahead of it. -/
import Derived.Test.YtekamebpjjkifaaHK1
import Derived.Test.YtekamebpjjkifaaHK15
import Derived.Test.YtekamebpjjkifaaHK35
/- walks -/
namespace Go.Proofs.Ytekamebpjjkifaa
open Go.RowKit
set_option linter.unusedVariables false
set_option linter.unusedSimpArgs false

def portEq (a b c d : Int) : Bool := decide (a = c ∧ b = d)
theorem port_eqIn (w : World) (n : Nat) (a b c d : Int) : (Op.equalIn (n + 2) 38 (.agg #[.int .i64 a, .int .i64 b]) (.agg #[.int .i64 c, .int .i64 d])).run Try.prog w = .ok (portEq a b c d) w := by
  rw [run_equalIn_struct w (n + 1) 38 _ _ (by kernel_rfl) (by kernel_rfl)]
  have hf : (Try.prog.fieldsOf 38).toList = [⟨ "Node", 3, 0, false, "", "", 0⟩, ⟨ "Link", 3, 1, false, "", "", 8⟩] := by kernel_rfl
  rw [hf]
  have u3 := Try.underlying3
  by_cases h1 : a = c <;> by_cases h2 : b = d <;> simp [Op.eqFields, part, run_equalIn_int _ _ _ _ _ _ _ u3, portEq, h1, h2]
@[go_sem ↓] theorem port_eql (w : World) (a b c d : Int) : (binOp .eql 38 (.agg #[.int .i64 a, .int .i64 b]) (.agg #[.int .i64 c, .int .i64 d])).run Try.prog w = .ok (.bool (portEq a b c d)) w := by
  simp only [binOp]
  simp [Op.equal, Op.maxDepth, port_eqIn w 9998]
@[go_sem ↓] theorem port_neq (w : World) (a b c d : Int) : (binOp .neq 38 (.agg #[.int .i64 a, .int .i64 b]) (.agg #[.int .i64 c, .int .i64 d])).run Try.prog w = .ok (.bool (!portEq a b c d)) w := by
  simp only [binOp]
  simp [Op.equal, Op.maxDepth, port_eqIn w 9998]
@[go_sem ↓] theorem port_guard (w : World) (op : BinOp) (x y : Operand) (xs ys : Array Value) : (eqGuard op 38 x y (.agg xs) (.agg ys)).run Try.prog w = .ok () w :=
  run_eqGuard_agg w op 38 x y xs ys (by kernel_rfl)

@[go_sem ↓] theorem port_field0 (w : World) (a b : Value) : (Instr.field 38 (.agg #[a, b]) 0).run Try.prog w = .ok a w := by kernel_rfl
@[go_sem ↓] theorem port_field1 (w : World) (a b : Value) : (Instr.field 38 (.agg #[a, b]) 1).run Try.prog w = .ok b w := by kernel_rfl
def existsB (n a b : Int) : Bool := decide (0 ≤ a ∧ a < n ∧ 0 ≤ b ∧ b < 4)

structure Wire where
  a : Int
  b : Int
  c : Int
  d : Int

def Wire.cells (x : Wire) : List Value := [.int .i64 x.a, .int .i64 x.b, .int .i64 x.c, .int .i64 x.d]
def wcells (ws : List Wire) : List Value := ws.flatMap Wire.cells

theorem wcells_length (ws : List Wire) : (wcells ws).length = 4 * ws.length := by
  induction ws with
  | nil => rfl
  | cons x r ih => simp [wcells, Wire.cells] at ih ⊢; omega
theorem wcells_get (ws : List Wire) (k : Nat) (x : Wire) (h : ws[k]? = some x) (j : Nat) (u : Value) (hj : x.cells[j]? = some u) : (wcells ws)[k * 4 + j]? = some u := by
  induction ws generalizing k with
  | nil => simp at h
  | cons y r ih =>
    have hlen : y.cells.length = 4 := rfl
    cases k with
    | zero =>
      simp at h; subst h
      have hjl : j < 4 := by
        rcases Nat.lt_or_ge j 4 with h | h
        · exact h
        · rw [List.getElem?_eq_none (by rw [hlen]; omega)] at hj; cases hj
      simp only [wcells, List.flatMap_cons]
      rw [List.getElem?_append_left (by rw [hlen]; omega)]
      simpa using hj
    | succ k =>
      simp at h
      simp only [wcells, List.flatMap_cons]
      rw [List.getElem?_append_right (by rw [hlen]; omega), hlen, show (k + 1) * 4 + j - 4 = k * 4 + j from by omega]
      exact ih k h

def peerL : List Wire → Int → Int → Option (Int × Int)
  | [], _, _ => none
  | x :: r, a, b => if x.a = a ∧ x.b = b then some (x.c, x.d) else if x.c = a ∧ x.d = b then some (x.a, x.b) else peerL r a b

def peerV (r : Option (Int × Int)) : Value := match r with
  | some (a, b) => .tuple #[.agg #[.int .i64 a, .int .i64 b], .bool true]
  | none => .tuple #[.agg #[.int .i64 0, .int .i64 0], .bool false]

theorem peerL_no {ws : List Wire} {k : Nat} {x : Wire} {a b : Int} (hx : ws[k]? = some x) (h1 : portEq x.a x.b a b = false) (h2 : portEq x.c x.d a b = false) : peerL (ws.drop k) a b = peerL (ws.drop (k + 1)) a b := by
  obtain ⟨hk, rfl⟩ := List.getElem?_eq_some_iff.1 hx
  simp only [portEq, decide_eq_false_iff_not] at h1 h2
  rw [List.drop_eq_getElem_cons hk, peerL, if_neg h1, if_neg h2]
theorem peerL_one {ws : List Wire} {k : Nat} {x : Wire} {a b : Int} (hx : ws[k]? = some x) (h1 : portEq x.a x.b a b = true) : peerL (ws.drop k) a b = some (x.c, x.d) := by
  obtain ⟨hk, rfl⟩ := List.getElem?_eq_some_iff.1 hx
  simp only [portEq, decide_eq_true_eq] at h1
  rw [List.drop_eq_getElem_cons hk, peerL, if_pos h1]
theorem peerL_two {ws : List Wire} {k : Nat} {x : Wire} {a b : Int} (hx : ws[k]? = some x) (h1 : portEq x.a x.b a b = false) (h2 : portEq x.c x.d a b = true) : peerL (ws.drop k) a b = some (x.a, x.b) := by
  obtain ⟨hk, rfl⟩ := List.getElem?_eq_some_iff.1 hx
  simp only [portEq, decide_eq_true_eq, decide_eq_false_iff_not] at h1 h2
  rw [List.drop_eq_getElem_cons hk, peerL, if_neg h1, if_pos h2]
theorem peerL_end {ws : List Wire} {k : Nat} {a b : Int} (h : ws.length ≤ k) : peerL (ws.drop k) a b = none := by
  rw [List.drop_eq_nil_of_le h]; rfl

end Go.Proofs.Ytekamebpjjkifaa

/- walks -/
namespace Go.Proofs.Ytekamebpjjkifaa
open Go.RowKit
set_option linter.unusedVariables false
set_option linter.unusedSimpArgs false

abbrev Pt := Int × Int
def Pt.cells (p : Pt) : List Value := [.int .i64 p.1, .int .i64 p.2]
def pcells (l : List Pt) : List Value := l.flatMap Pt.cells
theorem pcells_length (l : List Pt) : (pcells l).length = l.length * 2 := by
  induction l with
  | nil => rfl
  | cons x r ih => simp [pcells, Pt.cells] at ih ⊢; omega
theorem pcells_append (l r : List Pt) : pcells (l ++ r) = pcells l ++ pcells r := by simp [pcells]
theorem pcells_succ (y : Pt) (r : List Pt) (k : Nat) : (pcells (y :: r))[(k + 1) * 2]? = (pcells r)[k * 2]? := by
  rw [show (k + 1) * 2 = k * 2 + 1 + 1 from by omega]; rfl
theorem pcells_succ1 (y : Pt) (r : List Pt) (k : Nat) : (pcells (y :: r))[(k + 1) * 2 + 1]? = (pcells r)[k * 2 + 1]? := by
  rw [show (k + 1) * 2 + 1 = k * 2 + 1 + 1 + 1 from by omega]; rfl
theorem pcells_get (l : List Pt) (k : Nat) (x : Pt) (h : l[k]? = some x) : (pcells l)[k * 2]? = some (.int .i64 x.1) ∧ (pcells l)[k * 2 + 1]? = some (.int .i64 x.2) := by
  induction l generalizing k with
  | nil => simp at h
  | cons y r ih =>
    cases k with
    | zero => simp at h; subst h; simp [pcells, Pt.cells]
    | succ k =>
      simp at h
      obtain ⟨h1, h2⟩ := ih k h
      exact ⟨by rw [← h1, pcells_succ], by rw [← h2, pcells_succ1]⟩

theorem port_info : (Try.prog.info? 38).map (fun i => (i.zero, i.size, i.bytes)) = some (some (.agg #[.int .i64 0, .int .i64 0]), 2, 16) := by kernel_rfl

def portsOf (ws : List Wire) : List Pt := ws.flatMap fun x => [(x.a, x.b), (x.c, x.d)]
theorem portsOf_take {ws : List Wire} {k : Nat} {x : Wire} (hx : ws[k]? = some x) : portsOf (ws.take (k + 1)) = portsOf (ws.take k) ++ [(x.a, x.b), (x.c, x.d)] := by
  obtain ⟨hk, rfl⟩ := List.getElem?_eq_some_iff.1 hx
  rw [List.take_succ_eq_append_getElem hk]; simp only [portsOf, List.flatMap_append]; rfl

end Go.Proofs.Ytekamebpjjkifaa

/- The size of a process, in the document: some number; which kernels are too large for a law. -/
namespace Go.Proofs.Ytekamebpjjkifaa
open Go.RowKit
set_option linter.unusedSimpArgs false
set_option linter.unusedVariables false

def RetSome (w : World) (e : Ending) (w' : World) : Prop := Below w.heap.size w w' ∧ ∃ n : Int, e = .returned (.int .i64 n)
def SizeOk (p : KP) : Prop := ∀ (B : Nat) (w : World), p.In w B → B ≤ w.heap.size → Calls Try.prog 18 #[.agg p.cells] w (RetSome w)
set_option maxRecDepth 100000 in
set_option maxHeartbeats 8000000 in
theorem rSize1 (p : KP) (hil : ∀ x ∈ p.l, SizeOk x) (hig : ∀ g ∈ p.g, ∀ x ∈ g.body, SizeOk x) : SizeOk p := by
  intro B w hi hB
  have HIL := Lib.hid hil
  have HIG := Lib.hid hig
  have HI := Lib.hid hi
  have HW : Hid (∀ w1 : World, Below w.heap.size w w1 → p.In w1 B ∧ B ≤ w1.heap.size) := Lib.hid fun w1 hb => ⟨hi.below (hb.mono hB), Nat.le_trans hB hb.size⟩
  have hlen := hi.one.1.2.2.2.2.2
  have hlen2 := hi.one.1.2.2.2.2.1
  unfold lenOk at hlen hlen2
  obtain ⟨m, hm⟩ : ∃ m, p.l.length = m := ⟨_, rfl⟩
  obtain ⟨mg, hmg⟩ : ∃ m, p.g.length = m := ⟨_, rfl⟩
  rw [hm] at hlen
  rw [hmg] at hlen2
  have HM := Lib.hid hm
  have HMG := Lib.hid hmg
  obtain ⟨W0, hW0⟩ : ∃ W0, w.alloc (.cells p.cells 31) = W0 := ⟨_, rfl⟩
  obtain ⟨l1, l2⟩ := lay1 w p.cells 31
  rw [hW0] at l1 l2
  obtain ⟨PA, hPA⟩ : ∃ q, p.Al = q := ⟨_, rfl⟩
  obtain ⟨PG, hPG⟩ : ∃ q, p.Ag = q := ⟨_, rfl⟩
  have HPA := Lib.hid hPA
  have HPG := Lib.hid hPG
  have S : Hid (UsS w W0 p.cells) := Lib.hid ⟨l1, l2⟩
  simp only [KP.cells, hm, hmg, hPA, hPG] at l2 hW0 S ⊢
  have e0 := l2.cell 0
  have e1 := l2.cell 1
  have e2 := l2.cell 2
  have e3 := l2.cell 3
  have e4 := l2.cell 4
  have e5 := l2.cell 5
  have e6 := l2.cell 6
  have e7 := l2.cell 7
  simp at e0 e1 e2 e3 e4 e5 e6 e7
  clear l1 l2 hi hm hmg hil hig hPA hPG
  go_enter Try.func18, Try.ntmps18
  go_upto_block 0 with fail
  go_cut [3, 4] (fun v3 v4 wx => (∃ z : Int, v3 = .int .i64 z) ∧ Hid (UsS w wx #[.int .u8 p.kind, .int .i64 p.c, .int .i64 p.v, .int .u8 p.item, .slice p.At p.tos.length p.ct, .slice p.Ae p.e.length p.ce, .slice PG mg p.cg, .slice PA m p.cl]))
  case first =>
    go_wp2_with fail
    go_loopw [4, 3] (fun i v wr => ∃ (j : Nat) (z : Int), j ≤ m ∧ i = .int .i64 j ∧ v = .int .i64 z ∧ Hid (UsS w wr #[.int .u8 p.kind, .int .i64 p.c, .int .i64 p.v, .int .u8 p.item, .slice p.At p.tos.length p.ct, .slice p.Ae p.e.length p.ce, .slice PG mg p.cg, .slice PA m p.cl])) (fun i _ _ => m - (intOf i).toNat)
    case atStart => exact ⟨0, 1, Nat.zero_le _, rfl, rfl, S⟩
    case round =>
      clear S e0 e1 e2 e3 e4 e5 e6 e7
      obtain ⟨j, z, hj, rfl, rfl, S⟩ := hrel
      have x1 := S.out.pb
      have e0 := x1.cell 0
      have e1 := x1.cell 1
      have e2 := x1.cell 2
      have e3 := x1.cell 3
      have e4 := x1.cell 4
      have e5 := x1.cell 5
      have e6 := x1.cell 6
      have e7 := x1.cell 7
      simp at e0 e1 e2 e3 e4 e5 e6 e7
      clear x1
      by_cases hlt : j < m
      · have hltI : (j : Int) < m := by omega
        have hin := HW.out wr S.out.bel
        obtain ⟨b, off, x, hA, hb, hx, hmx, c0, c1, c2, c3, c4, c5, c6, c7⟩ := kps_at hin.1.one.2.2.2.2 rfl (k := j) (by rw [HM.out]; exact hlt)
        have hbw : b < wr.heap.size := Nat.lt_of_lt_of_le hb hin.2
        obtain rfl : PA = some ⟨b, off, none⟩ := HPA.out.symm.trans hA
        have HC := Lib.hid (HIL.out x hmx B wr (hin.1.part hmx) hin.2)
        simp only [KP.cells] at HC
        clear hx hmx hA hin
        go_wp2_with (first
          | (go_at_call 18; (with_reducible refine HC.out.mono ?_); rintro e1 w3 ⟨hb3, n3, rfl⟩))
        have S3 := Lib.hid (S.out.call hb3)
        clear hb3
        go_roundw
        case rel => exact ⟨j + 1, _, by omega, by go_num, rfl, S3⟩
        case measure => simp [intOf]; omega
      · have hltI : ¬ (j : Int) < m := by omega
        go_wp2_with fail
        go_meet
        exact ⟨⟨z, rfl⟩, S⟩
  case rest =>
    clear S e0 e1 e2 e3 e4 e5 e6 e7
    obtain ⟨⟨z, rfl⟩, S⟩ := hcut
    go_wp2_with fail
    go_loopw [5, 3] (fun i v wr => ∃ (j : Nat) (z : Int), j ≤ mg ∧ i = .int .i64 j ∧ v = .int .i64 z ∧ Hid (UsS w wr #[.int .u8 p.kind, .int .i64 p.c, .int .i64 p.v, .int .u8 p.item, .slice p.At p.tos.length p.ct, .slice p.Ae p.e.length p.ce, .slice PG mg p.cg, .slice PA m p.cl])) (fun i _ _ => mg - (intOf i).toNat)
    case atStart => exact ⟨0, z, Nat.zero_le _, rfl, rfl, S⟩
    case round =>
      clear S
      obtain ⟨j, z, hj, rfl, rfl, S⟩ := hrel
      have x1 := S.out.pb
      have e0 := x1.cell 0
      have e1 := x1.cell 1
      have e2 := x1.cell 2
      have e3 := x1.cell 3
      have e4 := x1.cell 4
      have e5 := x1.cell 5
      have e6 := x1.cell 6
      have e7 := x1.cell 7
      simp at e0 e1 e2 e3 e4 e5 e6 e7
      clear x1
      by_cases hlt : j < mg
      · have hltI : (j : Int) < mg := by omega
        obtain ⟨b, off, g, hA, hb, hx, hmx, hG⟩ := kgs_at HI.out.one.2.2.2.1.1 rfl (k := j) (by rw [HMG.out]; exact hlt)
        obtain rfl : PG = some ⟨b, off, none⟩ := HPG.out.symm.trans hA
        have HC17 : Hid (∀ W, Below w.heap.size w W → W.cell? ⟨b, off + j * 18 + 17, none⟩ = some (.slice g.Ab g.body.length g.cb)) := Lib.hid fun W hW => (hW.cell (p := ⟨b, off + j * 18 + 17, none⟩) (Nat.lt_of_lt_of_le hb hB)).trans hG.c17
        have hbo := (HI.out.one.2.2.2.1.2 g hmx).2.2.2.2
        have HBO := Lib.hid hbo
        have hblen := HI.out.one.2.2.2.1.2 g hmx
        obtain ⟨AB, hAB⟩ : ∃ q, g.Ab = q := ⟨_, rfl⟩
        obtain ⟨mb, hmb⟩ : ∃ q, g.body.length = q := ⟨_, rfl⟩
        have hmbl : mb ≤ 140737488355328 := by rw [← hmb]; exact hblen.1.2.2.2
        have HAB := Lib.hid hAB
        have HMB := Lib.hid hmb
        have HMX := Lib.hid hmx
        rw [hAB, hmb] at HC17
        have c17 := HC17.out wr S.out.bel
        clear hx hmx hA hG hbo hblen hAB hmb
        go_wp2_with fail
        go_loopw [6, 3] (fun i v wx => ∃ (t : Nat) (y : Int), t ≤ mb ∧ i = .int .i64 t ∧ v = .int .i64 y ∧ Hid (UsS w wx #[.int .u8 p.kind, .int .i64 p.c, .int .i64 p.v, .int .u8 p.item, .slice p.At p.tos.length p.ct, .slice p.Ae p.e.length p.ce, .slice (some ⟨b, off, none⟩) mg p.cg, .slice PA m p.cl])) (fun i _ _ => mb - (intOf i).toNat)
        case atStart => exact ⟨0, z, Nat.zero_le _, rfl, rfl, S⟩
        case round =>
          clear S e0 e1 e2 e3 e4 e5 e6 e7 c17
          obtain ⟨t, y, ht, rfl, rfl, S⟩ := hrel
          have x1 := S.out.pb
          have e0 := x1.cell 0
          have e1 := x1.cell 1
          have e2 := x1.cell 2
          have e3 := x1.cell 3
          have e4 := x1.cell 4
          have e5 := x1.cell 5
          have e6 := x1.cell 6
          have e7 := x1.cell 7
          simp at e0 e1 e2 e3 e4 e5 e6 e7
          clear x1
          have c17 := HC17.out _ S.out.bel
          by_cases hlt2 : t < mb
          · have hlt2I : (t : Int) < mb := by omega
            have hin := HW.out _ S.out.bel
            have hrb := HBO.out
            obtain ⟨b2, off2, x, hA2, hb2, hx2, hmx2, d0, d1, d2, d3, d4, d5, d6, d7⟩ := kps_at ((hin.1.one.2.2.2.1.2 g HMX.out).2.2.2.2) rfl (k := t) (by rw [HMB.out]; exact hlt2)
            obtain rfl : AB = some ⟨b2, off2, none⟩ := HAB.out.symm.trans hA2
            have HC := Lib.hid (HIG.out g HMX.out x hmx2 B _ (hin.1.guard HMX.out hmx2) hin.2)
            simp only [KP.cells] at HC
            clear hx2 hmx2 hA2 hin hrb
            go_wp2_with (first
              | (go_at_call 18; (with_reducible refine HC.out.mono ?_); rintro e1 w3 ⟨hb3, n3, rfl⟩))
            have S3 := Lib.hid (S.out.call hb3)
            clear hb3
            go_roundw
            case rel => exact ⟨t + 1, _, by omega, by go_num, rfl, S3⟩
            case measure => simp [intOf]; omega
          · have hlt2I : ¬ (t : Int) < mb := by omega
            go_wp2
            go_roundw
            case rel => exact ⟨j + 1, _, by omega, by go_num, rfl, S⟩
            case measure => simp [intOf]; omega
      · have hltI : ¬ (j : Int) < mg := by omega
        go_wp2
        go_ret
        exact ⟨S.out.bel, _, rfl⟩
theorem rSize (p : KP) : SizeOk p := by
  induction p using KP.ind with
  | h p ihg ihl => exact rSize1 p ihl ihg
end Go.Proofs.Ytekamebpjjkifaa

/- The plain words of the reference of layer 35: peers, the order in which nodes are found. -/
namespace Go.Proofs.Ytekamebpjjkifaa
open Go.RowKit
set_option linter.unusedVariables false
set_option linter.unusedSimpArgs false

/-- One link of a node that is visited. -/
def ordStep (ws : List Wire) (n : Int) (l : List Pt) (k : Nat) : List Pt :=
  match peerL ws n k with
  | some q => if l.all (fun p => p.1 != q.1) then l ++ [q] else l
  | none => l
def ordNode (ws : List Wire) (n : Int) (l : List Pt) : List Pt := (List.range 4).foldl (ordStep ws n) l
/-- The nodes that come of those from number i on. -/
def ordL (ws : List Wire) : Nat → List Pt → Nat → List Pt
  | 0, l, _ => l
  | f + 1, l, i => match l[i]? with
    | some p => ordL ws f (ordNode ws p.1 l) (i + 1)
    | none => l
def orderOf (ws : List Wire) (hn hl : Int) : List Pt := ordL ws 9 [(hn, hl)] 0

structure NetOk (N : Int) (ws : List Wire) (hn : Int) : Prop where
  n1 : 1 ≤ N
  n8 : N ≤ 8
  h0 : 0 ≤ hn
  h1 : hn < N
  w : ∀ x ∈ ws, (0 ≤ x.a ∧ x.a < N) ∧ 0 ≤ x.c ∧ x.c < N

theorem peerL_ok {N hn : Int} {ws : List Wire} (h : NetOk N ws hn) {a b : Int} {q : Pt} (hp : peerL ws a b = some q) : 0 ≤ q.1 ∧ q.1 < N := by
  have hw := h.w
  clear h
  induction ws with
  | nil => cases hp
  | cons x r ih =>
    have hx := hw x (by simp)
    simp only [peerL] at hp
    split at hp
    · injection hp with hp; subst hp; exact hx.2
    · split at hp
      · injection hp with hp; subst hp; exact hx.1
      · exact ih hp (fun y hy => hw y (by simp [hy]))

/-- A list of found ports: nodes different, all in range. -/
structure Found (N : Int) (l : List Pt) : Prop where
  nd : (l.map (·.1)).Nodup
  rg : ∀ p ∈ l, 0 ≤ p.1 ∧ p.1 < N

theorem nodup_short : ∀ (n : Nat) (l : List Int), l.Nodup → (∀ x ∈ l, 0 ≤ x ∧ x < n) → l.length ≤ n
  | 0, l, _, h => by
    cases l with
    | nil => simp
    | cons x r => have := h x (by simp); omega
  | n + 1, l, hd, h => by
    have h1 : (l.erase (n : Int)).length ≤ n := by
      refine nodup_short n _ (hd.erase _) (fun x hx => ?_)
      have := (List.Nodup.mem_erase_iff hd).1 hx
      have h2 := h x this.2
      have : x ≠ n := this.1
      omega
    have h2 := List.length_erase (a := (n : Int)) (l := l)
    split at h2 <;> omega

theorem Found.short {N : Int} {l : List Pt} (h : Found N l) (h8 : N ≤ 8) : l.length ≤ 8 := by
  have := nodup_short 8 (l.map (·.1)) h.nd (fun x hx => by
    obtain ⟨p, hp, rfl⟩ := List.mem_map.1 hx
    have := h.rg p hp
    omega)
  simpa using this

theorem Found.step {N hn n : Int} {ws : List Wire} {l : List Pt} (h : Found N l) (hw : NetOk N ws hn) (k : Nat) : Found N (ordStep ws n l k) := by
  unfold ordStep
  split
  · rename_i q hq
    split
    · rename_i hall
      refine ⟨?_, fun p hp => ?_⟩
      · rw [List.map_append, List.nodup_append]
        refine ⟨h.nd, by simp, fun a ha b hb => ?_⟩
        simp at hb ha
        subst hb
        obtain ⟨y, hy⟩ := ha
        have := (List.all_eq_true.1 hall) _ hy
        simpa using this
      · rcases List.mem_append.1 hp with hp | hp
        · exact h.rg p hp
        · simp at hp; subst hp; exact peerL_ok hw hq
    · exact h
  · exact h

theorem ordStep_ext (ws : List Wire) (n : Int) (l : List Pt) (k : Nat) : ∃ r, ordStep ws n l k = l ++ r := by
  unfold ordStep
  split
  · split
    · exact ⟨_, rfl⟩
    · exact ⟨[], by simp⟩
  · exact ⟨[], by simp⟩

/-- The links from number k on. -/
def ordFrom (ws : List Wire) (n : Int) (l : List Pt) (k : Nat) : List Pt := ((List.range 4).drop k).foldl (ordStep ws n) l
theorem ordFrom_zero (ws : List Wire) (n : Int) (l : List Pt) : ordFrom ws n l 0 = ordNode ws n l := rfl
theorem ordFrom_four (ws : List Wire) (n : Int) (l : List Pt) : ordFrom ws n l 4 = l := rfl
theorem ordFrom_step (ws : List Wire) (n : Int) (l : List Pt) (k : Nat) (hk : k < 4) : ordFrom ws n l k = ordFrom ws n (ordStep ws n l k) (k + 1) := by
  match k, hk with
  | 0, _ => rfl
  | 1, _ => rfl
  | 2, _ => rfl
  | 3, _ => rfl

theorem ordL_step {ws : List Wire} {f : Nat} {l : List Pt} {i : Nat} {p : Pt} (hp : l[i]? = some p) : ordL ws (f + 1) l i = ordL ws f (ordNode ws p.1 l) (i + 1) := by
  simp [ordL, hp]
theorem ordL_end {ws : List Wire} {f : Nat} {l : List Pt} {i : Nat} (hp : l.length ≤ i) : ordL ws f l i = l := by
  cases f with
  | zero => rfl
  | succ f => simp [ordL, List.getElem?_eq_none hp]

theorem Found.node {N hn n : Int} {ws : List Wire} {l : List Pt} (h : Found N l) (hw : NetOk N ws hn) : Found N (ordNode ws n l) :=
  ((((h.step hw 0).step hw 1).step hw 2).step hw 3)
theorem ordL_found {N hn : Int} {ws : List Wire} (hw : NetOk N ws hn) : ∀ (f : Nat) (l : List Pt) (i : Nat), Found N l → Found N (ordL ws f l i)
  | 0, _, _, h => h
  | f + 1, l, i, h => by
    simp only [ordL]
    split
    · exact ordL_found hw f _ _ (h.node hw)
    · exact h
theorem order_found {N hn : Int} {ws : List Wire} (hw : NetOk N ws hn) (hl : Int) : Found N (orderOf ws hn hl) :=
  ordL_found hw _ _ _ ⟨by simp, fun p hp => by simp at hp; subst hp; exact ⟨hw.h0, hw.h1⟩⟩
def fresh (q : Option Pt) (l : List Pt) : Bool := match q with
  | some q => l.all (fun p => p.1 != q.1)
  | none => false
theorem fresh_nil (q : Option Pt) : fresh q [] = q.isSome := by cases q <;> rfl
theorem fresh_false {q : Option Pt} {l : List Pt} {t : Nat} (h : fresh q (l.take t) = false) : fresh q (l.take (t + 1)) = false := by
  cases q with
  | none => rfl
  | some q =>
    simp only [fresh] at h ⊢
    rcases Nat.lt_or_ge t l.length with ht | ht
    · rw [List.take_succ_eq_append_getElem ht, List.all_append, h]; rfl
    · rwa [List.take_of_length_le (by omega), ← List.take_of_length_le ht]
theorem fresh_true {q : Option Pt} {l : List Pt} {t : Nat} {p : Pt} (hp : l[t]? = some p) (h : fresh q (l.take t) = true) : fresh q (l.take (t + 1)) = (p.1 != (q.getD (0, 0)).1) := by
  obtain ⟨ht, rfl⟩ := List.getElem?_eq_some_iff.1 hp
  cases q with
  | none => cases h
  | some q =>
    simp only [fresh] at h ⊢
    rw [List.take_succ_eq_append_getElem ht, List.all_append, h]; simp
theorem ordStep_fresh (ws : List Wire) (n : Int) (l : List Pt) (k : Nat) : ordStep ws n l k = if fresh (peerL ws n k) l then l ++ [(peerL ws n k).getD (0, 0)] else l := by
  unfold ordStep fresh
  cases peerL ws n k <;> simp
end Go.Proofs.Ytekamebpjjkifaa

/- walks -/
namespace Go.Proofs.Ytekamebpjjkifaa
open Go.RowKit
set_option linter.unusedVariables false
set_option linter.unusedSimpArgs false

end Go.Proofs.Ytekamebpjjkifaa
