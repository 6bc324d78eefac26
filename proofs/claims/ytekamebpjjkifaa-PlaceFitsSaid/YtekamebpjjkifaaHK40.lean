/- Texts that belong together, joined: what each one holds is told ahead of it. -/
import Derived.Test.YtekamebpjjkifaaHK38
import Derived.Test.YtekamebpjjkifaaHK39
import Derived.Test.YtekamebpjjkifaaHK36
/- The program's valid, May, Peer, Tree, inside, above. -/
namespace Go.Proofs.Ytekamebpjjkifaa
open Go.RowKit
set_option linter.unusedVariables false
set_option linter.unusedSimpArgs false

def cntOk (N hn hl : Int) (ws : List Wire) : Bool := decide (((orderOf ws hn hl).length : Int) = N)
/-- What valid hands back. -/
def RetK (N hn hl : Int) (ws : List Wire) (cs : Nat → Array Value) (w : World) (e : Ending) (w' : World) : Prop :=
  Below w.heap.size w w' ∧ ((joinB N hn hl ws = false ∧ e = .returned (.tuple #[.pointer none, .slice none 0 0, .bool false])) ∨
    (joinB N hn hl ws = true ∧ ∃ g r b, e = .returned (.tuple #[.pointer (some ⟨g, 0, none⟩), .slice (some ⟨b, 0, none⟩) N.toNat N.toNat, .bool (cntOk N hn hl ws)]) ∧
      Blk w' g 92 (cs r) ∧ MapIs w' r (pairs ws) ∧ Blk w' b 3 (tarr N (orderOf ws hn hl)) ∧ w.heap.size ≤ g ∧ w.heap.size ≤ b))

set_option maxRecDepth 100000 in
set_option maxHeartbeats 1000000 in
theorem tvalid (N hn hl : Int) (A : Option Addr) (m c : Nat) (ws : List Wire) (w : World) (hr : Reads w w.heap.size 4 A m (wcells ws)) (hm : m ≤ 1000000) :
    Calls Try.prog 30 #[.agg #[.int .i64 N, .slice A m c, .int .i64 hn, .int .i64 hl]] w (RetK N hn hl ws (gcells N hn hl A m c) w) := by
  obtain ⟨k1, k2⟩ := lay1 w #[.int .i64 N, .slice A m c, .int .i64 hn, .int .i64 hl] 40
  have hr0 := hr.up k1 (by simp <;> omega)
  have HJ := Lib.hid (tjoin N hn hl A m c ws (w.alloc (.cells #[.int .i64 N, .slice A m c, .int .i64 hn, .int .i64 hl] 40)) hr0 hm)
  go_enter Try.func30, Try.ntmps30
  go_wp2_with (first
    | (go_at_call 42; refine HJ.out.mono ?_; rintro e w1 ⟨hb1, (⟨hj, rfl⟩ | ⟨hj, g, r, rfl, bg, hM, hgl⟩)⟩)
    | (go_at_call 43; refine (ttree N hn hl A m c g r ws (joinB_net hj) w1 bg hM).mono ?_; rintro e w2 ⟨hb2, b, hbl, rfl, bt⟩
       have bg2 := bg.call hb2
       have hM2 := hM.call hb2
       have hB2 := (k1.call (by simp <;> omega) hb1).call (by have := hb1.size; simp at this; omega) hb2
       have b02 := (k2.call hb1).call hb2
       have c0 := b02.cell 0
       simp at c0))
  · go_ret3
    exact ⟨k1.call (by simp <;> omega) hb1, .inl ⟨hj, rfl⟩⟩
  · go_quiet (fail)
    go_wp2
    go_ret3
    have hs1 := hb1.size
    simp at hs1 hgl
    refine ⟨hB2.drewN' _, .inr ⟨hj, g, r, b, ?_, bg2.drewN _, hM2.drewN _, bt.drewN _, by omega, by omega⟩⟩
    have e : cntOk N hn hl ws = (((orderOf ws hn hl).length : Int) == N) := by rw [cntOk, Bool.eq_iff_iff]; simp
    rw [e]; rfl

theorem tvalid_no (N hn hl : Int) (A : Option Addr) (m c : Nat) (ws : List Wire) (w : World) (hr : Reads w w.heap.size 4 A m (wcells ws)) (hm : m ≤ 1000000) (h : mayB N ws hn hl = false) :
    Calls Try.prog 30 #[.agg #[.int .i64 N, .slice A m c, .int .i64 hn, .int .i64 hl]] w fun e w' => Below w.heap.size w w' ∧ ∃ p s, e = .returned (.tuple #[p, s, .bool false]) := by
  refine (tvalid N hn hl A m c ws w hr hm).mono ?_
  rintro e w1 ⟨hb, (⟨hj, rfl⟩ | ⟨hj, g, r, b, rfl, bg, hM, bt, hgl, hbl⟩)⟩
  · exact ⟨hb, _, _, rfl⟩
  · refine ⟨hb, .pointer (some ⟨g, 0, none⟩), .slice (some ⟨b, 0, none⟩) N.toNat N.toNat, ?_⟩
    rw [mayB_join, hj, Bool.true_and] at h
    rw [cntOk, h]
theorem tvalid_yes (N hn hl : Int) (A : Option Addr) (m c : Nat) (ws : List Wire) (w : World) (hr : Reads w w.heap.size 4 A m (wcells ws)) (hm : m ≤ 1000000) (h : mayB N ws hn hl = true) :
    Calls Try.prog 30 #[.agg #[.int .i64 N, .slice A m c, .int .i64 hn, .int .i64 hl]] w fun e w' => Below w.heap.size w w' ∧ ∃ g r b, e = .returned (.tuple #[.pointer (some ⟨g, 0, none⟩), .slice (some ⟨b, 0, none⟩) N.toNat N.toNat, .bool true]) ∧
      Blk w' g 92 (gcells N hn hl A m c r) ∧ MapIs w' r (pairs ws) ∧ Blk w' b 3 (tarr N (orderOf ws hn hl)) ∧ w.heap.size ≤ g ∧ w.heap.size ≤ b := by
  refine (tvalid N hn hl A m c ws w hr hm).mono ?_
  rw [mayB_join, Bool.and_eq_true] at h
  rintro e w1 ⟨hb, (⟨hj, rfl⟩ | ⟨hj, g, r, b, rfl, bg, hM, bt, hgl, hbl⟩)⟩
  · rw [hj] at h; cases h.1
  · exact ⟨hb, g, r, b, by rw [cntOk, h.2], bg, hM, bt, hgl, hbl⟩

set_option maxRecDepth 100000 in
set_option maxHeartbeats 1000000 in
theorem tmay (N hn hl : Int) (A : Option Addr) (m c : Nat) (ws : List Wire) (w : World) (hr : Reads w w.heap.size 4 A m (wcells ws)) (hm : m ≤ 1000000) :
    Calls Try.prog 13 #[.agg #[.int .i64 N, .slice A m c, .int .i64 hn, .int .i64 hl]] w (RetV (.bool (mayB N ws hn hl)) w) := by
  obtain ⟨k1, k2⟩ := lay1 w #[.int .i64 N, .slice A m c, .int .i64 hn, .int .i64 hl] 40
  have hr0 := hr.up k1 (by simp <;> omega)
  cases hmay : mayB N ws hn hl
  · have HJ := Lib.hid (tvalid_no N hn hl A m c ws (w.alloc (.cells #[.int .i64 N, .slice A m c, .int .i64 hn, .int .i64 hl] 40)) hr0 hm hmay)
    clear hmay
    go_enter Try.func13, Try.ntmps13
    go_wp2_with (go_at_call 30; refine HJ.out.mono ?_; rintro e w1 ⟨hb1, p, s, rfl⟩)
    go_ret
    exact ⟨rfl, k1.call (by simp <;> omega) hb1⟩
  · have HJ := Lib.hid (tvalid_yes N hn hl A m c ws (w.alloc (.cells #[.int .i64 N, .slice A m c, .int .i64 hn, .int .i64 hl] 40)) hr0 hm hmay)
    clear hmay
    go_enter Try.func13, Try.ntmps13
    go_wp2_with (go_at_call 30; refine HJ.out.mono ?_; rintro e w1 ⟨hb1, g, r, b, rfl, bg, hM, bt, hgl, hbl⟩)
    go_ret
    exact ⟨rfl, k1.call (by simp <;> omega) hb1⟩

def tints (N : Int) (l : List Pt) : List Int := l.foldl (fun a p => a.set p.1.toNat p.2) (List.replicate N.toNat 0)
theorem tints_arr (N : Int) (l : List Pt) : (tarr N l).toList = icells (tints N l) := by
  have : ∀ (l : List Pt) (a : Array Value) (b : List Int), a.toList = icells b → (l.foldl (fun a p => a.setIfInBounds p.1.toNat (.int .i64 p.2)) a).toList = icells (l.foldl (fun a p => a.set p.1.toNat p.2) b) := by
    intro l
    induction l with
    | nil => exact fun a b h => h
    | cons p r ih =>
      intro a b h
      rw [List.foldl_cons, List.foldl_cons]
      exact ih _ _ (by rw [Array.toList_setIfInBounds, h]; simp [icells, List.map_set])
  exact this l _ _ (by simp [icells])
theorem tints_length (N : Int) (l : List Pt) : (tints N l).length = N.toNat := by
  have h := congrArg List.length (tints_arr N l)
  rw [Array.length_toList, tarr_size, icells_length] at h
  exact h.symm
def tTreeR (N : Int) (ws : List Wire) (hn hl : Int) : List Int × Int := if mayB N ws hn hl then (tints N (orderOf ws hn hl), 0) else ([], 2)

theorem RetSE.of_blk {w w' : World} {b n : Nat} {t : TypeId} {cs : Array Value} {xs : List Int} {k : Int} (h : Blk w' b t cs) (hc : cs.toList = icells xs) (hn : xs.length = n) (hB : Below w.heap.size w w') : RetSE xs k w (.returned (.tuple #[.slice (some ⟨b, 0, none⟩) n n, .int .i64 k])) w' := by
  subst hn
  refine ⟨_, _, rfl, ⟨by rw [icells_length]; omega, fun _ => ⟨_, rfl, h.lt, fun j u hu => ?_⟩⟩, hB⟩
  have hadd : (⟨b, 0, none⟩ : Addr).add j = ⟨b, j, none⟩ := by unfold Addr.add; split <;> simp_all
  rw [hadd, h.cell j, ← hu, ← hc, Array.getElem?_toList]

end Go.Proofs.Ytekamebpjjkifaa

/- The program's Peer and above. -/
namespace Go.Proofs.Ytekamebpjjkifaa
open Go.RowKit
set_option linter.unusedVariables false
set_option linter.unusedSimpArgs false

/-- A lookup by a port. -/
theorem look_run {w : World} {r : Nat} {ws : List Wire} (h : MapIs w r (pairs ws)) {x y : Int} {q : Option Pt} (hq : peerL ws x y = q) {q1 q2 : Int} (h12 : q.getD (0, 0) = (q1, q2)) :
    (Instr.lookup 90 (.map (some r)) (.agg #[.int .i64 x, .int .i64 y]) true).run Try.prog w = .ok (.tuple #[.agg #[.int .i64 q1, .int .i64 q2], .bool q.isSome]) w := by
  have h := run_lookup61 h x y
  rw [lookL_pairs, hq] at h
  rw [h]
  rcases q with _ | ⟨a, b⟩ <;> (simp at h12; obtain ⟨rfl, rfl⟩ := h12; rfl)

set_option maxRecDepth 100000 in
set_option maxHeartbeats 1000000 in
theorem tPeer (N hn hl a b : Int) (A : Option Addr) (m c : Nat) (ws : List Wire) (w : World) (hr : Reads w w.heap.size 4 A m (wcells ws)) (hm : m ≤ 1000000) :
    Calls Try.prog 15 #[.agg #[.int .i64 N, .slice A m c, .int .i64 hn, .int .i64 hl], .agg #[.int .i64 a, .int .i64 b]] w (RetV (peerV (rpeerOf N ws hn hl a b)) w) := by
  obtain ⟨k1, k2, k3, k4⟩ := lay3 w #[.int .i64 N, .slice A m c, .int .i64 hn, .int .i64 hl] #[.int .i64 a, .int .i64 b] #[.int .i64 0, .int .i64 0] 40 38 38
  have hr0 := hr.up k1 (by simp <;> omega)
  cases hmay : mayB N ws hn hl
  · have e : rpeerOf N ws hn hl a b = none := by simp [rpeerOf, hmay]
    rw [e]
    have HO := Lib.hid (tvalid_no N hn hl A m c ws (((w.alloc (.cells #[.int .i64 N, .slice A m c, .int .i64 hn, .int .i64 hl] 40)).alloc (.cells #[.int .i64 a, .int .i64 b] 38)).alloc (.cells #[.int .i64 0, .int .i64 0] 38)) hr0 hm hmay)
    clear hmay e
    go_enter Try.func15, Try.ntmps15
    go_wp2_with (go_at_call 30; refine HO.out.mono ?_; rintro e w1 ⟨hb1, p, s, rfl⟩
                 have b4 := k4.call hb1
                 have c40 := b4.cell 0
                 have c41 := b4.cell 1
                 have f40 := b4.frozen 0
                 have f41 := b4.frozen 1
                 simp at c40 c41)
    refine bodyPost_ret (v := peerV none) (by simp [results, Try.results15, go_sem, c40, c41, peerV]) rfl ⟨rfl, ?_⟩
    exact ((k1.call (by simp <;> omega) hb1).setCell (by simp <;> omega) _).setCell (by simp <;> omega) _
  · have e : rpeerOf N ws hn hl a b = peerL ws a b := by simp [rpeerOf, hmay]
    rw [e]
    have HO := Lib.hid (tvalid_yes N hn hl A m c ws (((w.alloc (.cells #[.int .i64 N, .slice A m c, .int .i64 hn, .int .i64 hl] 40)).alloc (.cells #[.int .i64 a, .int .i64 b] 38)).alloc (.cells #[.int .i64 0, .int .i64 0] 38)) hr0 hm hmay)
    clear hmay e
    obtain ⟨q, hq⟩ : ∃ q, peerL ws a b = q := ⟨_, rfl⟩
    obtain ⟨q1, q2, hq12⟩ : ∃ q1 q2, q.getD (0, 0) = (q1, q2) := ⟨_, _, rfl⟩
    have HLK := Lib.hid (fun w' r (h : MapIs w' r (pairs ws)) => look_run h hq hq12)
    have HV := Lib.hid (show peerV q = .tuple #[.agg #[.int .i64 q1, .int .i64 q2], .bool q.isSome] by rcases q with _ | ⟨x, y⟩ <;> (simp at hq12; obtain ⟨rfl, rfl⟩ := hq12; rfl))
    rw [hq]
    clear hq hq12
    go_enter Try.func15, Try.ntmps15
    go_upto_region 4 with (first
      | (go_at_call 30; refine HO.out.mono ?_; rintro e w1 ⟨hb1, g, r, bt, rfl, bg, hM, _, hgl, _⟩
         have b2 := k2.call hb1
         have b3 := k3.call hb1
         have b4 := k4.call hb1
         have hB := k1.call (by simp <;> omega) hb1
         have hs1 := hb1.size))
    have g4 := bg.cell 4
    have c30 := b3.cell 0
    have c31 := b3.cell 1
    simp [gcells] at g4 c30 c31 hs1
    have lg := bg.lt
    have l3 := b3.lt
    clear b2
    go_cut [9, 10] (fun s9 s10 wx => ∃ g6 : Nat, s9 = .pointer (some ⟨g6, 0, none⟩) ∧ s10 = .bool q.isSome ∧ Blk wx g6 38 #[.int .i64 q1, .int .i64 q2] ∧ Below w1.heap.size w1 wx)
    case first =>
      go_region_held3 (fun w' => w1.heap.size ≤ w'.heap.size ∧ (∀ b o, b < w1.heap.size → w'.cell? ⟨b, o, none⟩ = w1.cell? ⟨b, o, none⟩) ∧
          (Instr.lookup 90 (.map (some r)) (.agg #[.int .i64 a, .int .i64 b]) true).run Try.prog w' = .ok (.tuple #[.agg #[.int .i64 q1, .int .i64 q2], .bool q.isSome]) w')
        (first | exact ⟨SBel.drew.1, SBel.drew.2, HLK.out _ _ hM.drew⟩ | exact ⟨(SBel.drew.alloc _).1, (SBel.drew.alloc _).2, HLK.out _ _ (hM.drew.alloc _)⟩)
        (fail)
      all_goals
        go_wp2
        go_meet
        exact ⟨w1.heap.size, rfl, rfl, Blk.new w1.drew _ _, (Below.refl w1.heap.size w1).drew.alloc (Nat.le_refl _) _⟩
    case rest =>
      obtain ⟨g6, rfl, rfl, b6, k6⟩ := hcut
      have b4' := b4.call k6
      have c60 := b6.cell 0
      have c61 := b6.cell 1
      have f40 := b4'.frozen 0
      have f41 := b4'.frozen 1
      have c40 := b4'.cell 0
      have c41 := b4'.cell 1
      simp at c60 c61 c40 c41
      clear g4 c30 c31
      go_wp2
      refine bodyPost_ret (v := peerV q) (by rw [HV.out]; simp [results, Try.results15, go_sem, c40, c41]) rfl ⟨rfl, ?_⟩
      exact ((hB.call (by omega) k6).setCell (by simp <;> omega) _).setCell (by simp <;> omega) _

theorem MapIs.far {w : World} {b : Nat} {E : List (Pt × Pt)} (h : MapIs w b E) {p : Addr} (hp : b ≠ p.block) (u : Value) : MapIs (w.setCell p u) b E := (Below.heap_setCell w p u b hp).trans h
theorem frz2 (W : World) (p q a : Addr) (u v : Value) (h : W.frozen? a = false) : ((W.setCell p u).setCell q v).drew.frozen? a = false := by
  show ((W.setCell p u).setCell q v).frozen? a = false
  rw [World.frozen?_setCell, World.frozen?_setCell]; exact h
theorem run_lookup61f {w : World} {b : Nat} {E : List (Pt × Pt)} (h : MapIs w b E) (x y : Int) :
    (Instr.lookup 90 (.map (some b)) (.agg #[.int .i64 x, .int .i64 y]) false).run Try.prog w = .ok (ptV ((lookL E (x, y)).getD (0, 0))) w := by
  have hc := run_check24 w (ents E).isEmpty (x, y)
  have hf := run_findKey24 w (x, y) E
  have hz := run_zero24 w
  have hl := findE_look (x, y) E 0
  simp only [ptV] at hc hf hz
  simp only [Instr.lookup, Sem.run_bind, run_underlying Try.underlying90, Result.andThen_ok, run_getMap h, Sem.run_pure, hc, ents, hf] at *
  cases h1 : findE (x, y) E 0 with
  | none =>
    have h2 := findE_none.2 h1
    simp [h2, hz, ptV]
  | some r =>
    rw [h1] at hl
    cases h2 : lookL E (x, y) with
    | none => rw [h2] at hl; cases hl
    | some q =>
      rw [h2] at hl
      obtain ⟨i, v⟩ := r
      simp at hl
      subst hl
      simp [ptV]

end Go.Proofs.Ytekamebpjjkifaa

/- Networks as they lie in memory; too large for a law; the node of a branch: walked. -/
namespace Go.Proofs.Ytekamebpjjkifaa
open Go.RowKit
set_option linter.unusedSimpArgs false
set_option linter.unusedVariables false

/-- A network. -/
structure TN where
  N : Int
  A : Option Addr
  c : Nat
  ws : List Wire
  hn : Int
  hl : Int
def TN.flat (t : TN) : Array Value := #[.int .i64 t.N, .slice t.A t.ws.length t.c, .int .i64 t.hn, .int .i64 t.hl]
def TN.In (t : TN) (w : World) (B : Nat) : Prop := Reads w B 4 t.A t.ws.length (wcells t.ws)
theorem TN.In.below {t : TN} {w w' : World} {B : Nat} (h : t.In w B) (hb : Below B w w') : t.In w' B := Reads.below h hb
theorem TN.In.top {t : TN} {w : World} {B : Nat} (h : t.In w B) (hB : B ≤ w.heap.size) : Reads w w.heap.size 4 t.A t.ws.length (wcells t.ws) := Reads.more h hB
/-- What large answers. -/
def RetLg (t : TN) (w : World) (e : Ending) (w' : World) : Prop := Below w.heap.size w w' ∧ ∃ b : Bool, e = .returned (.bool b) ∧ (b = false → t.ws.length ≤ 40)
set_option maxRecDepth 100000 in
set_option maxHeartbeats 8000000 in
theorem lLarge40 (k : KK) (t : TN) (B : Nat) (w : World) (hk : k.In w B) (hB : B ≤ w.heap.size) :
    Calls Try.prog 6 #[.agg k.flat, .agg t.flat] w (RetLg t w) := by
  obtain ⟨W0, hW0⟩ : ∃ W, (w.alloc (.cells k.flat 34)).alloc (.cells t.flat 40) = W := ⟨_, rfl⟩
  obtain ⟨l1, l2, l3⟩ := lay2 w k.flat t.flat 34 40
  rw [hW0] at l1 l2 l3
  have K0 := Lib.hid l1
  have HS := Lib.hid (rSize k.root B W0 (hk.2.2.1.below (l1.mono hB)) (Nat.le_trans hB l1.size))
  obtain ⟨nv, hnv⟩ : ∃ q, k.vars.length = q := ⟨_, rfl⟩
  obtain ⟨nc, hnc⟩ : ∃ q, k.chans.length = q := ⟨_, rfl⟩
  obtain ⟨np, hnp⟩ : ∃ q, k.procs.length = q := ⟨_, rfl⟩
  obtain ⟨nw, hnw⟩ : ∃ q, t.ws.length = q := ⟨_, rfl⟩
  have HNW := Lib.hid hnw
  simp only [KK.flat, TN.flat, hnv, hnc, hnp, hnw] at l2 l3 hW0 ⊢
  simp only [KP.cells] at HS
  have e0 := l2.cell 0
  have e1 := l2.cell 1
  have e2 := l2.cell 2
  have e3 := l2.cell 3
  have e4 := l2.cell 4
  have e5 := l2.cell 5
  have e6 := l2.cell 6
  have e7 := l2.cell 7
  have e8 := l2.cell 8
  have e9 := l2.cell 9
  have e10 := l2.cell 10
  simp at e0 e1 e2 e3 e4 e5 e6 e7 e8 e9 e10
  have q0 := l3.cell 0
  have q1 := l3.cell 1
  have q2 := l3.cell 2
  have q3 := l3.cell 3
  simp at q0 q1 q2 q3
  clear l1 l2 l3 hk hnv hnc hnp hnw
  go_enter Try.func6, Try.ntmps6
  by_cases h1 : 300 < nv
  · have y1 : (300 : Int) < (nv : Int) := by omega
    clear h1
    go_wp2
    go_ret
    exact ⟨K0.out, true, rfl, fun h => by cases h⟩
  have y1 : ¬ (300 : Int) < (nv : Int) := by omega
  by_cases h2 : 70 < nc
  · have y2 : (70 : Int) < (nc : Int) := by omega
    clear h1 h2
    go_wp2
    go_ret
    exact ⟨K0.out, true, rfl, fun h => by cases h⟩
  have y2 : ¬ (70 : Int) < (nc : Int) := by omega
  by_cases h3 : 20 < np
  · have y3 : (20 : Int) < (np : Int) := by omega
    clear h1 h2 h3
    go_wp2
    go_ret
    exact ⟨K0.out, true, rfl, fun h => by cases h⟩
  have y3 : ¬ (20 : Int) < (np : Int) := by omega
  by_cases h4 : 40 < nw
  · have y4 : (40 : Int) < (nw : Int) := by omega
    clear h1 h2 h3 h4
    go_wp2
    go_ret
    exact ⟨K0.out, true, rfl, fun h => by cases h⟩
  have y4 : ¬ (40 : Int) < (nw : Int) := by omega
  have H4 : Hid (nw ≤ 40) := Lib.hid (by omega)
  clear h1 h2 h3 h4
  go_wp2_with (first
    | (go_at_call 18; (with_reducible refine HS.out.mono ?_); rintro e1 w1 ⟨hb1, z, rfl⟩))
  go_ret
  exact ⟨K0.out.trans (hb1.mono K0.out.size), _, rfl, fun _ => by rw [HNW.out]; exact H4.out⟩
/-- The node of a branch. -/
def nodeI (k : KK) (t : TN) (b : Nat) : Int := if k.procs.length = 0 then t.hn else (k.procs[b]?).getD 0
theorem ints_get {w : World} {B n : Nat} {A : Option Addr} {l : List Int} (h : Reads w B 1 A n (intsC l)) (hn : l.length = n) {k : Nat} (hk : k < n) :
    ∃ b off x, A = some ⟨b, off, none⟩ ∧ b < B ∧ l[k]? = some x ∧ w.cell? ⟨b, off + k, none⟩ = some (.int .i64 x) := by
  obtain ⟨b, off, h1, h2, h3⟩ := ints_at' h hn hk
  have hx := List.getElem?_eq_getElem (l := l) (i := k) (by omega)
  exact ⟨b, off, _, h1, h2, hx, h3 k _ hx⟩
set_option maxRecDepth 100000 in
set_option maxHeartbeats 8000000 in
theorem pNode (k : KK) (t : TN) (b : Nat) (hb : k.procs.length = 0 ∨ b < k.procs.length) (B : Nat) (w : World) (hk : k.In w B) (hB : B ≤ w.heap.size) :
    Calls Try.prog 26 #[.agg k.flat, .agg t.flat, .int .i64 b] w (RetV (.int .i64 (nodeI k t b)) w) := by
  obtain ⟨W0, hW0⟩ : ∃ W, (w.alloc (.cells k.flat 34)).alloc (.cells t.flat 40) = W := ⟨_, rfl⟩
  obtain ⟨l1, l2, l3⟩ := lay2 w k.flat t.flat 34 40
  rw [hW0] at l1 l2 l3
  have K0 := Lib.hid l1
  have HP := Lib.hid (hk.2.2.2.2.1.below (l1.mono hB))
  have hlen := hk.2.2.2.1
  unfold lenOk at hlen
  obtain ⟨np, hnp⟩ : ∃ q, k.procs.length = q := ⟨_, rfl⟩
  have HN := Lib.hid hnp
  rw [hnp] at hlen hb
  by_cases h0 : np = 0
  · have hv : nodeI k t b = t.hn := by unfold nodeI; rw [if_pos (by rw [hnp]; exact h0)]
    rw [hv]
    have y : ((np : Int) == 0) = true := by simp [h0]
    simp only [KK.flat, TN.flat, hnp] at l2 l3 hW0 ⊢
    have e0 := l2.cell 0
    have e1 := l2.cell 1
    have e2 := l2.cell 2
    have e3 := l2.cell 3
    have e4 := l2.cell 4
    have e5 := l2.cell 5
    have e6 := l2.cell 6
    have e7 := l2.cell 7
    have e8 := l2.cell 8
    have e9 := l2.cell 9
    have e10 := l2.cell 10
    simp at e0 e1 e2 e3 e4 e5 e6 e7 e8 e9 e10
    have q0 := l3.cell 0
    have q1 := l3.cell 1
    have q2 := l3.cell 2
    have q3 := l3.cell 3
    simp at q0 q1 q2 q3
    clear l1 l2 l3 hk hnp hv h0
    go_enter Try.func26, Try.ntmps26
    go_wp2
    go_ret
    exact ⟨rfl, K0.out⟩
  · have hbl : b < np := hb.resolve_left h0
    obtain ⟨bb, off, x, hA, hbb, hx, c0⟩ := ints_get HP.out rfl (k := b) (by rw [hnp]; exact hbl)
    have hv : nodeI k t b = x := by unfold nodeI; rw [if_neg (by rw [hnp]; exact h0), hx]; rfl
    rw [hv]
    have y : ((np : Int) == 0) = false := by simp; omega
    have yb : (b : Int) < (np : Int) := by omega
    simp only [KK.flat, TN.flat, hnp, hA] at l2 l3 hW0 ⊢
    have e0 := l2.cell 0
    have e1 := l2.cell 1
    have e2 := l2.cell 2
    have e3 := l2.cell 3
    have e4 := l2.cell 4
    have e5 := l2.cell 5
    have e6 := l2.cell 6
    have e7 := l2.cell 7
    have e8 := l2.cell 8
    have e9 := l2.cell 9
    have e10 := l2.cell 10
    simp at e0 e1 e2 e3 e4 e5 e6 e7 e8 e9 e10
    have q0 := l3.cell 0
    have q1 := l3.cell 1
    have q2 := l3.cell 2
    have q3 := l3.cell 3
    simp at q0 q1 q2 q3
    clear l1 l2 l3 hk hnp hv h0 hx hA
    go_enter Try.func26, Try.ntmps26
    go_wp2
    go_ret
    exact ⟨rfl, K0.out⟩
end Go.Proofs.Ytekamebpjjkifaa
