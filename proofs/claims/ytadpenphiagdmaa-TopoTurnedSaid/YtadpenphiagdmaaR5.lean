/- The program's Peer and above. -/
import Derived.Test.YtadpenphiagdmaaR4
namespace Go.Proofs.Ytadpenphiagdmaa
open Go.RowKit
set_option linter.unusedVariables false
set_option linter.unusedSimpArgs false

/-- A lookup by a port. -/
theorem look_run {w : World} {r : Nat} {ws : List Wire} (h : MapIs w r (pairs ws)) {x y : Int} {q : Option Pt} (hq : peerL ws x y = q) {q1 q2 : Int} (h12 : q.getD (0, 0) = (q1, q2)) :
    (Instr.lookup 61 (.map (some r)) (.agg #[.int .i64 x, .int .i64 y]) true).run Try.prog w = .ok (.tuple #[.agg #[.int .i64 q1, .int .i64 q2], .bool q.isSome]) w := by
  have h := run_lookup61 h x y
  rw [lookL_pairs, hq] at h
  rw [h]
  rcases q with _ | ⟨a, b⟩ <;> (simp at h12; obtain ⟨rfl, rfl⟩ := h12; rfl)

set_option maxRecDepth 100000 in
set_option maxHeartbeats 1000000 in
theorem tPeer (N hn hl a b : Int) (A : Option Addr) (m c : Nat) (ws : List Wire) (w : World) (hr : Reads w w.heap.size 4 A m (wcells ws)) (hm : m ≤ 1000000) :
    Calls Try.prog 20 #[.agg #[.int .i64 N, .slice A m c, .int .i64 hn, .int .i64 hl], .agg #[.int .i64 a, .int .i64 b]] w (RetV (peerV (rpeerOf N ws hn hl a b)) w) := by
  obtain ⟨k1, k2, k3, k4⟩ := lay3 w #[.int .i64 N, .slice A m c, .int .i64 hn, .int .i64 hl] #[.int .i64 a, .int .i64 b] #[.int .i64 0, .int .i64 0] 26 24 24
  have hr0 := hr.up k1 (by simp <;> omega)
  cases hmay : mayB N ws hn hl
  · have e : rpeerOf N ws hn hl a b = none := by simp [rpeerOf, hmay]
    rw [e]
    have HO := Lib.hid (tvalid_no N hn hl A m c ws (((w.alloc (.cells #[.int .i64 N, .slice A m c, .int .i64 hn, .int .i64 hl] 26)).alloc (.cells #[.int .i64 a, .int .i64 b] 24)).alloc (.cells #[.int .i64 0, .int .i64 0] 24)) hr0 hm hmay)
    clear hmay e
    go_enter Try.func20, Try.ntmps20
    go_wp2_with (go_at_call 26; refine HO.out.mono ?_; rintro e w1 ⟨hb1, p, s, rfl⟩
                 have b4 := k4.call hb1
                 have c40 := b4.cell 0
                 have c41 := b4.cell 1
                 have f40 := b4.frozen 0
                 have f41 := b4.frozen 1
                 simp at c40 c41)
    refine bodyPost_ret (v := peerV none) (by simp [results, Try.results20, go_sem, c40, c41, peerV]) rfl ⟨rfl, ?_⟩
    exact ((k1.call (by simp <;> omega) hb1).setCell (by simp <;> omega) _).setCell (by simp <;> omega) _
  · have e : rpeerOf N ws hn hl a b = peerL ws a b := by simp [rpeerOf, hmay]
    rw [e]
    have HO := Lib.hid (tvalid_yes N hn hl A m c ws (((w.alloc (.cells #[.int .i64 N, .slice A m c, .int .i64 hn, .int .i64 hl] 26)).alloc (.cells #[.int .i64 a, .int .i64 b] 24)).alloc (.cells #[.int .i64 0, .int .i64 0] 24)) hr0 hm hmay)
    clear hmay e
    obtain ⟨q, hq⟩ : ∃ q, peerL ws a b = q := ⟨_, rfl⟩
    obtain ⟨q1, q2, hq12⟩ : ∃ q1 q2, q.getD (0, 0) = (q1, q2) := ⟨_, _, rfl⟩
    have HLK := Lib.hid (fun w' r (h : MapIs w' r (pairs ws)) => look_run h hq hq12)
    have HV := Lib.hid (show peerV q = .tuple #[.agg #[.int .i64 q1, .int .i64 q2], .bool q.isSome] by rcases q with _ | ⟨x, y⟩ <;> (simp at hq12; obtain ⟨rfl, rfl⟩ := hq12; rfl))
    rw [hq]
    clear hq hq12
    go_enter Try.func20, Try.ntmps20
    go_upto_region 4 with (first
      | (go_at_call 26; refine HO.out.mono ?_; rintro e w1 ⟨hb1, g, r, bt, rfl, bg, hM, _, hgl, _⟩
         have b2 := k2.call hb1
         have b3 := k3.call hb1
         have b4 := k4.call hb1
         have hB := k1.call (by simp <;> omega) hb1
         have hs1 := hb1.size))
    have g4 := bg.cell 4
    have c30 := b3.cell 0
    have c31 := b3.cell 1
    simp [gcells] at g4 c30 c31 hs1
    have lg := bg.lt
    have l3 := b3.lt
    clear b2
    go_cut [9, 10] (fun s9 s10 wx => ∃ g6 : Nat, s9 = .pointer (some ⟨g6, 0, none⟩) ∧ s10 = .bool q.isSome ∧ Blk wx g6 24 #[.int .i64 q1, .int .i64 q2] ∧ Below w1.heap.size w1 wx)
    case first =>
      go_region_held3 (fun w' => w1.heap.size ≤ w'.heap.size ∧ (∀ b o, b < w1.heap.size → w'.cell? ⟨b, o, none⟩ = w1.cell? ⟨b, o, none⟩) ∧
          (Instr.lookup 61 (.map (some r)) (.agg #[.int .i64 a, .int .i64 b]) true).run Try.prog w' = .ok (.tuple #[.agg #[.int .i64 q1, .int .i64 q2], .bool q.isSome]) w')
        (first | exact ⟨SBel.drew.1, SBel.drew.2, HLK.out _ _ hM.drew⟩ | exact ⟨(SBel.drew.alloc _).1, (SBel.drew.alloc _).2, HLK.out _ _ (hM.drew.alloc _)⟩)
        (fail)
      all_goals
        go_wp2
        go_meet
        exact ⟨w1.heap.size, rfl, rfl, Blk.new w1.drew _ _, (Below.refl w1.heap.size w1).drew.alloc (Nat.le_refl _) _⟩
    case rest =>
      obtain ⟨g6, rfl, rfl, b6, k6⟩ := hcut
      have b4' := b4.call k6
      have c60 := b6.cell 0
      have c61 := b6.cell 1
      have f40 := b4'.frozen 0
      have f41 := b4'.frozen 1
      have c40 := b4'.cell 0
      have c41 := b4'.cell 1
      simp at c60 c61 c40 c41
      clear g4 c30 c31
      go_wp2
      refine bodyPost_ret (v := peerV q) (by rw [HV.out]; simp [results, Try.results20, go_sem, c40, c41]) rfl ⟨rfl, ?_⟩
      exact ((hB.call (by omega) k6).setCell (by simp <;> omega) _).setCell (by simp <;> omega) _

theorem MapIs.far {w : World} {b : Nat} {E : List (Pt × Pt)} (h : MapIs w b E) {p : Addr} (hp : b ≠ p.block) (u : Value) : MapIs (w.setCell p u) b E := (Below.heap_setCell w p u b hp).trans h
theorem frz2 (W : World) (p q a : Addr) (u v : Value) (h : W.frozen? a = false) : ((W.setCell p u).setCell q v).drew.frozen? a = false := by
  show ((W.setCell p u).setCell q v).frozen? a = false
  rw [World.frozen?_setCell, World.frozen?_setCell]; exact h
theorem run_lookup61f {w : World} {b : Nat} {E : List (Pt × Pt)} (h : MapIs w b E) (x y : Int) :
    (Instr.lookup 61 (.map (some b)) (.agg #[.int .i64 x, .int .i64 y]) false).run Try.prog w = .ok (ptV ((lookL E (x, y)).getD (0, 0))) w := by
  have hc := run_check24 w (ents E).isEmpty (x, y)
  have hf := run_findKey24 w (x, y) E
  have hz := run_zero24 w
  have hl := findE_look (x, y) E 0
  simp only [ptV] at hc hf hz
  simp only [Instr.lookup, Sem.run_bind, run_underlying Try.underlying61, Result.andThen_ok, run_getMap h, Sem.run_pure, hc, ents, hf] at *
  cases h1 : findE (x, y) E 0 with
  | none =>
    have h2 := findE_none.2 h1
    simp [h2, hz, ptV]
  | some r =>
    rw [h1] at hl
    cases h2 : lookL E (x, y) with
    | none => rw [h2] at hl; cases hl
    | some q =>
      rw [h2] at hl
      obtain ⟨i, v⟩ := r
      simp at hl
      subst hl
      simp [ptV]

set_option maxRecDepth 100000 in
set_option maxHeartbeats 1000000 in
/-- The port above a node. -/
theorem tabove (N hn hl x : Int) (A : Option Addr) (m c g r b : Nat) (ws : List Wire) (w : World) (T : List Int) (cs : Array Value) (hcs : cs.toList = icells T) (hT : T.length = N.toNat)
    (bg : Blk w g 63 (gcells N hn hl A m c r)) (hM : MapIs w r (pairs ws)) (bt : Blk w b 3 cs) (h0 : 0 ≤ x) (hN : x < N) :
    Calls Try.prog 30 #[.pointer (some ⟨g, 0, none⟩), .slice (some ⟨b, 0, none⟩) N.toNat N.toNat, .int .i64 x] w (RetV (ptV ((peerL ws x (T.getD x.toNat 0)).getD (0, 0))) w) := by
  obtain ⟨k1, k2⟩ := lay1 w #[.int .i64 0, .int .i64 0] 24
  obtain ⟨y, hy⟩ : ∃ y, T.getD x.toNat 0 = y := ⟨_, rfl⟩
  obtain ⟨q1, q2, hq12⟩ : ∃ q1 q2, (peerL ws x y).getD (0, 0) = (q1, q2) := ⟨_, _, rfl⟩
  have cT : w.cell? ⟨b, x.toNat, none⟩ = some (.int .i64 y) := by
    have hx : x.toNat < T.length := by omega
    have e : T[x.toNat]? = some y := by rw [List.getElem?_eq_getElem hx, ← hy, List.getD_eq_getElem?_getD, List.getElem?_eq_getElem hx]; rfl
    rw [bt.cell, ← Array.getElem?_toList, hcs, icells, List.getElem?_map, e]; rfl
  have HLK : ∀ w', MapIs w' r (pairs ws) → (Instr.lookup 61 (.map (some r)) (.agg #[.int .i64 x, .int .i64 y]) false).run Try.prog w' = .ok (.agg #[.int .i64 q1, .int .i64 q2]) w' := fun w' h => by
    have h := run_lookup61f h x y
    rwa [lookL_pairs, hq12] at h
  rw [hy, hq12]
  have HLK := Lib.hid HLK
  clear hy hq12
  obtain ⟨W, hW⟩ : ∃ W, w.alloc (.cells #[.int .i64 0, .int .i64 0] 24) = W := ⟨_, rfl⟩
  have lb := bt.lt
  have lg := bg.lt
  have lr := hM.lt
  have bg' := bg.call k1
  have hM' := hM.call k1
  have cT' := (k1.cell (p := ⟨b, x.toNat, none⟩) lb).trans cT
  have lb' : b < W.heap.size := by rw [← hW]; simp; omega
  have lg' : g < W.heap.size := by rw [← hW]; simp; omega
  have l0' : w.heap.size < W.heap.size := by rw [← hW]; simp
  go_enter Try.func30, Try.ntmps30
  go_upto_region 1 with (fail)
  rw [hW] at k1 k2 bg' hM' cT'
  have g4 := bg'.cell 4
  have c0 := k2.cell 0
  have c1 := k2.cell 1
  have f0 := k2.frozen 0
  have f1 := k2.frozen 1
  simp [gcells] at g4 c0 c1
  have hxI : x < ((N.toNat : Nat) : Int) := by omega
  have hxm : x < max N 0 := by omega
  have hxn : x.toNat < N.toNat := by omega
  clear hW cT bt hM bg
  have lrr := lr
  go_region_held3 (fun w' => (∀ b o, b < w.heap.size → w'.cell? ⟨b, o, none⟩ = W.cell? ⟨b, o, none⟩) ∧ w'.frozen? ⟨w.heap.size, 0, none⟩ = false ∧ w'.frozen? ⟨w.heap.size, 1, none⟩ = false ∧
      (Instr.lookup 61 (.map (some r)) (.agg #[.int .i64 x, .int .i64 y]) false).run Try.prog w' = .ok (.agg #[.int .i64 q1, .int .i64 q2]) w')
    (first | exact ⟨fun _ _ _ => rfl, f0, f1, HLK.out _ hM'.drew⟩ | exact ⟨fun b o hb => (World.cell?_setCell_other _ _ _ _ (by simp <;> omega)).trans (World.cell?_setCell_other _ _ _ _ (by simp <;> omega)), frz2 _ _ _ _ _ _ f0, frz2 _ _ _ _ _ _ f1, HLK.out _ (MapIs.drew ((MapIs.far hM' (by simp <;> omega) _).far (by simp <;> omega) _))⟩)
    (fail)
  go_wp2
  trace_state
  refine bodyPost_ret (v := ptV (q1, q2)) (by simp [results, Try.results30, go_sem, c0, c1, ptV]) rfl ⟨rfl, ?_⟩
  exact ((k1.setCell (by simp <;> omega) _).setCell (by simp <;> omega) _).drew
end Go.Proofs.Ytadpenphiagdmaa
