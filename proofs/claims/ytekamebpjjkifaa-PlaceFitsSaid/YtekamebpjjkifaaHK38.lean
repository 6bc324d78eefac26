/- Texts that belong together, joined: what each one holds is told ahead of it. -/
import Derived.Test.YtekamebpjjkifaaHK37
import Derived.Shelf.RegionOpen
/- The tree of the program: a range over its iterator that fills an array. -/
namespace Go.Proofs.Ytekamebpjjkifaa
open Go.RowKit Go.Shelf
attribute [local go_sem] Oper.semAt_some

def tarr (N : Int) (l : List Pt) : Array Value := l.foldl (fun a p => a.setIfInBounds p.1.toNat (.int .i64 p.2)) (Array.replicate N.toNat (.int .i64 0))
theorem tarr_snoc (N : Int) (l : List Pt) (p : Pt) : tarr N (l ++ [p]) = (tarr N l).setIfInBounds p.1.toNat (.int .i64 p.2) := by simp [tarr, List.foldl_append]
theorem tarr_size (N : Int) (l : List Pt) : (tarr N l).size = N.toNat := by
  have : ∀ (l : List Pt) (a : Array Value), (l.foldl (fun a p => a.setIfInBounds p.1.toNat (.int .i64 p.2)) a).size = a.size := by
    intro l
    induction l with
    | nil => intro a; rfl
    | cons p r ih => intro a; rw [List.foldl_cons, ih]; simp
  rw [tarr, this]; simp

theorem made_zero (n : Nat) : madeCells (Value.int .i64 0).cells n = Array.replicate n (Value.int .i64 0) := by
  have e : (Value.int .i64 0).cells = #[.int .i64 0] := rfl
  rw [e]
  refine Array.ext (by simp [madeCells]) fun i h1 h2 => ?_
  simp [madeCells, Nat.mod_one]
theorem KeepX.alloc (X : Nat → Prop) (A : World) (o : Obj) : KeepX X A (A.alloc o) :=
  ⟨by simp, fun k o' _ h _ => (Below.heap_alloc A o k (Array.getElem?_eq_some_iff.1 h).1).trans h⟩
theorem KeepX.set (X : Nat → Prop) (A : World) {p : Addr} (hp : X p.block) (u : Value) : KeepX X A (A.setCell p u) :=
  ⟨by simp, fun k o' hk h _ => (Below.heap_setCell A p u k (by rintro rfl; exact hk hp)).trans h⟩
theorem loop_set {W : World} {k g t : Nat} {cs : Array Value} {r : Loop} (hb : Blk W g t cs) (i : Nat) (u : Value) (h : W.heap[k]? = some (Obj.loop r)) : (W.setCell ⟨g, i, none⟩ u).heap[k]? = some (Obj.loop r) :=
  (Below.heap_setCell W _ u k (by rintro rfl; unfold Blk at hb; rw [hb] at h; cases h)).trans h
theorem torder (g : Nat) (w : World) : Calls Try.prog 54 #[.pointer (some ⟨g, 0, none⟩)] w fun e w' => e = .returned (.func (.func 69) #[] #[.pointer (some ⟨w.heap.size, 0, none⟩)]) ∧ w' = w.alloc (.cells #[.pointer (some ⟨g, 0, none⟩)] 87) := by
  go_enter Try.func54, Try.ntmps54
  go_wp2
  go_ret
  exact ⟨rfl, rfl⟩

set_option maxRecDepth 100000 in
set_option maxHeartbeats 2000000 in
theorem ttree (N hn hl : Int) (A : Option Addr) (m c g r : Nat) (ws : List Wire) (hok : NetOk N ws hn) (w : World)
    (bg : Blk w g 92 #[.int .i64 N, .slice A m c, .int .i64 hn, .int .i64 hl, .map (some r)]) (hM : MapIs w r (pairs ws)) :
    Calls Try.prog 43 #[.pointer (some ⟨g, 0, none⟩)] w fun e w' => Below w.heap.size w w' ∧ ∃ b, w.heap.size ≤ b ∧
      e = .returned (.tuple #[.slice (some ⟨b, 0, none⟩) N.toNat N.toNat, .int .i64 (orderOf ws hn hl).length]) ∧ Blk w' b 3 (tarr N (orderOf ws hn hl)) := by
  refine (callsIn_wide (n := 9)).1 ?_
  refine callsIn_of_wp_marks Try.func43 rfl trivial ?_ rfl
  simp only [Try.ntmps43, List.size_toArray, List.length_cons, List.length_nil, Nat.reduceAdd, Nat.reduceSub, Array.replicate_succ, Array.replicate_zero, List.push_toArray, List.append_toArray, List.nil_append, List.cons_append]
  have cg0 := bg.cell 0
  simp at cg0
  have hh0 := hok.n1
  have hh8 := hok.n8
  have Hok := Lib.hid hok; clear hok
  obtain ⟨i0, hi0, hz0, hz1, hz2⟩ := info_parts int_info
  have hmk := run_make (P := Try.prog) w 32 3 i0 _ Try.underlying32 hi0 hz0 .i64 .i64 N N (by omega) (Int.le_refl _) (by rw [hz2]; omega) (by omega)
  rw [hz1, Nat.mul_one, show madeCells (Value.int .i64 0).cells N.toNat = tarr N [] from made_zero N.toNat] at hmk
  have hF : Found N (orderOf ws hn hl) := ordL_found Hok.out _ _ _ ⟨by simp, fun p hp => by simp at hp; subst hp; exact ⟨Hok.out.h0, Hok.out.h1⟩⟩
  have HF := Lib.hid hF; clear hF
  obtain ⟨W1, hW1⟩ : ∃ W1, ((w.alloc (.cells (tarr N []) 3)).alloc (.cells #[.slice (some ⟨w.heap.size, 0, none⟩) N.toNat N.toNat] 32)).alloc (.cells #[.int .i64 0] 3) = W1 := ⟨_, rfl⟩
  have ba : Blk W1 w.heap.size 3 (tarr N []) := by rw [← hW1]; exact ((Blk.new w _ _).alloc _).alloc _
  have b4 : Blk W1 (w.heap.size + 1) 32 #[.slice (some ⟨w.heap.size, 0, none⟩) N.toNat N.toNat] := by
    rw [← hW1]; have h := (Blk.new (w.alloc (.cells (tarr N []) 3)) 32 #[.slice (some ⟨w.heap.size, 0, none⟩) N.toNat N.toNat]).alloc (.cells #[.int .i64 0] 3); rwa [World.size_alloc] at h
  have b5 : Blk W1 (w.heap.size + 2) 3 #[.int .i64 0] := by
    rw [← hW1]; have h := (Blk.new ((w.alloc (.cells (tarr N []) 3)).alloc (.cells #[.slice (some ⟨w.heap.size, 0, none⟩) N.toNat N.toNat] 32)) 3 #[.int .i64 0]); rwa [World.size_alloc, World.size_alloc] at h
  have kB : Below w.heap.size w W1 := by rw [← hW1]; exact (((Below.refl _ w).alloc (Nat.le_refl _) _).alloc (by simp) _).alloc (by simp <;> omega) _
  have hsz : W1.heap.size = w.heap.size + 3 := by rw [← hW1]; simp
  have HW1 := Lib.hid hW1; clear hW1
  gi_wp2_with (refine ⟨trivial, ?_⟩; gi_at_call 54; rw [HW1.out]; refine (callsIn_wide.2 (torder g W1)).mono ?_; rintro e w' ⟨rfl, rfl⟩; rw [hsz])
  have bg' := bg.below kB bg.lt
  have hM' := hM.below kB hM.lt
  have lg := bg.lt
  have lr := hM.lt
  obtain ⟨W0, hW0⟩ : ∃ W0, W1.alloc (.cells #[.pointer (some ⟨g, 0, none⟩)] 87) = W0 := ⟨_, rfl⟩
  have hsz0 : W0.heap.size = w.heap.size + 4 := by rw [← hW0]; simp [hsz]
  have k1 : Below W1.heap.size W1 W0 := by rw [← hW0]; exact (Below.refl _ _).alloc (Nat.le_refl _) _
  have bb : Blk W0 (w.heap.size + 3) 87 #[.pointer (some ⟨g, 0, none⟩)] := by rw [← hW0, ← hsz]; exact Blk.new _ _ _
  have hgb : gbox W0 (w.heap.size + 3) g r N hn hl A m c ws := ⟨bb, bg'.call k1, hM'.call k1⟩
  have ba0 := ba.call k1
  have b40 := b4.call k1
  have b50 := b5.call k1
  have kB0 := kB.call kB.size k1
  rw [hW0]
  clear ba b4 b5 kB k1 bb bg' hM' hW0 HW1
  refine wpIn_range_all rfl rfl (gf := 69) (lb := #[.pointer (some ⟨w.heap.size + 3, 0, none⟩)]) rfl trivial (enters_of Try.func69 (by kernel_rfl) rfl) (X := fun k => k = w.heap.size ∨ k = w.heap.size + 2) (encs := fun p : Pt => #[ptV p]) (by rintro k (rfl | rfl) <;> omega)
    (order1 8 N hn hl A m c (w.heap.size + 3) g r ws Hok.out _ W0 (by rintro k (rfl | rfl) <;> omega) (by omega) (by omega) (by omega) hgb) (Below.refl _ _) (fun _ => rfl)
    (fun pre W => Blk W w.heap.size 3 (tarr N pre) ∧ Blk W (w.heap.size + 1) 32 #[.slice (some ⟨w.heap.size, 0, none⟩) N.toNat N.toNat] ∧ Blk W (w.heap.size + 2) 3 #[.int .i64 pre.length] ∧ Below w.heap.size w W)
    ?deep ⟨ba0, b40, b50, kB0⟩ ?round ?done
  case deep => exact fun s A B ⟨h1, h2, h3, h4⟩ k => ⟨h1.below k (by omega), h2.below k (by omega), h3.below k (by omega), h4.trans (k.mono (by omega))⟩
  case round =>
    rintro l pre x rr W ⟨ba, b4, b5, kB⟩ hxs hsW
    obtain ⟨x1, x2⟩ := x
    unfold ptV
    gi_wp2
    refine ⟨KeepX.alloc _ _ _, fun k r' h => (Below.heap_alloc W _ k (Array.getElem?_eq_some_iff.1 h).1).trans h, ?_⟩
    rintro W2 hgr ⟨hl0, hl1⟩
    have hne : ∀ k, k < w.heap.size + 4 → some k ≠ some l := fun k hk e => by injection e; omega
    have b6 := (Blk.new W 38 #[.int .i64 x1, .int .i64 x2]).grown hgr (fun e => by injection e; omega)
    have ba2 := (ba.alloc _).grown hgr (hne _ (by omega))
    have b42 := (b4.alloc _).grown hgr (hne _ (by omega))
    have b52 := (b5.alloc _).grown hgr (hne _ (by omega))
    have kB2 : Below w.heap.size w W2 := (kB.alloc kB.size (.cells #[.int .i64 x1, .int .i64 x2] 38)).grown hgr (by simp <;> omega) (fun k e => by injection e; omega)
    have hxr := HF.out.rg (x1, x2) (by rw [hxs]; simp)
    simp only at hxr
    obtain ⟨hx0, hxN⟩ := hxr
    have hp8 : pre.length ≤ 8 := by have h := HF.out.short hh8; rw [hxs] at h; simp at h; omega
    have c60 := b6.cell 0
    have c61 := b6.cell 1
    have c4 := b42.cell 0
    have c5 := b52.cell 0
    simp at c60 c61 c4 c5
    have fa := ba2.frozen x1.toNat
    have ca := ba2.cell x1.toNat
    rw [Array.getElem?_eq_getElem (by rw [tarr_size]; omega)] at ca
    have hxI : x1 < ((N.toNat : Nat) : Int) := by omega
    have f5 := b52.frozen 0
    have HXS := Lib.hid hxs; clear hxs
    clear ba b4 b5 kB hgr
    gi_wp2
    refine ⟨(KeepX.set _ _ (.inl rfl) _).trans (KeepX.set _ _ (.inr rfl) _), fun k r' h => loop_set (b52.far (by simp) _) 0 _ (loop_set ba2 _ _ h), ?_, (b42.far (by simp) _).far (by simp) _, ?_, (kB2.setCell (by simp) _).setCell (by simp <;> omega) _⟩
    · rw [tarr_snoc]; exact (ba2.set_ x1.toNat (.int .i64 x2)).far (by simp <;> omega) _
    · have h := (b52.far (p := ⟨w.heap.size, x1.toNat, none⟩) (by simp) (.int .i64 x2)).set_ 0 (.int .i64 ((pre.length : Int) + 1))
      simpa using h
  case done =>
    rintro D W ⟨ba, b4, b5, kB⟩ hK hD
    have c4 := b4.cell 0
    have c5 := b5.cell 0
    simp at c4 c5
    have hlen := HF.out.short hh8
    gi_wp2
    refine wpIn_wide_of_wp ?_
    go_quiet (fail)
    go_wp2
    gi_wp2
    have hKd : (W.drewN nq).heap[D]? = some (.deferred (some [])) := hK
    refine ⟨by simp, .inl ⟨_, _, rfl, run_takeDeferred hKd, ?_⟩⟩
    refine ⟨_, results_tmp2 rfl _ _ _, (kB.drewN' nq).putObj (by omega) _, w.heap.size, Nat.le_refl _, rfl, ?_⟩
    have hba : Blk (W.drewN nq) w.heap.size 3 (tarr N (orderOf ws hn hl)) := ba
    exact (World.putObj_heap_other (by omega)).trans hba
end Go.Proofs.Ytekamebpjjkifaa

/- Plain: a network may be joined just where its ports exist and differ. -/
namespace Go.Proofs.Ytekamebpjjkifaa
open Go.RowKit
set_option linter.unusedVariables false
set_option linter.unusedSimpArgs false

theorem portEq_iff (p q : Pt) : portEq p.1 p.2 q.1 q.2 = true ↔ p = q := by
  rcases p with ⟨a, b⟩
  rcases q with ⟨c, d⟩
  simp [portEq]
theorem portEq_ne (p q : Pt) : portEq p.1 p.2 q.1 q.2 = false ↔ p ≠ q := by
  rw [← Bool.not_eq_true, portEq_iff]
theorem portsOk_iff (N : Int) (l : List Pt) : portsOk N l = true ↔ (∀ p ∈ l, existsB N p.1 p.2 = true) ∧ l.Nodup := by
  constructor
  · intro h
    refine ⟨portsOk_at h, ?_⟩
    rw [List.Nodup, List.pairwise_iff_getElem]
    intro i j hi hj hij he
    simp only [portsOk, List.all_eq_true] at h
    have h2 := h j (by simpa using hj)
    simp only [okAt, List.getElem?_eq_getElem hj, Bool.and_eq_true, List.all_eq_true] at h2
    have h3 := h2.2 l[i] (by rw [List.mem_iff_getElem?]; exact ⟨i, by rw [List.getElem?_take, if_pos hij, List.getElem?_eq_getElem hi]⟩)
    rw [Bool.not_eq_true', portEq_ne] at h3
    exact h3 he
  · rintro ⟨h1, h2⟩
    refine portsOk_of fun j hj => ?_
    refine okAt_yes (List.getElem?_eq_getElem hj) (h1 _ (List.getElem_mem hj)) ?_
    rw [List.all_eq_true]
    intro q hq
    rw [Bool.not_eq_true', portEq_ne]
    obtain ⟨i, hi⟩ := List.mem_iff_getElem?.1 hq
    rw [List.getElem?_take] at hi
    split at hi
    · rename_i hij
      obtain ⟨hil, rfl⟩ := List.getElem?_eq_some_iff.1 hi
      rw [List.Nodup, List.pairwise_iff_getElem] at h2
      exact h2 i j hil hj hij
    · cases hi
theorem peerL_none_iff (ws : List Wire) (a b : Int) : peerL ws a b = none ↔ (a, b) ∉ portsOf ws := by
  induction ws with
  | nil => simp [peerL, portsOf]
  | cons x r ih =>
    simp only [peerL, portsOf, List.flatMap_cons, List.mem_append, List.mem_cons, Prod.mk.injEq, List.not_mem_nil, or_false] at ih ⊢
    by_cases h1 : x.a = a ∧ x.b = b
    · rw [if_pos h1]; simp [h1.1, h1.2]
    · rw [if_neg h1]
      by_cases h2 : x.c = a ∧ x.d = b
      · rw [if_pos h2]; simp [h2.1, h2.2]
      · rw [if_neg h2, ih]
        constructor
        · rintro h ((⟨e1, e2⟩ | ⟨e1, e2⟩) | h3)
          · exact h1 ⟨e1.symm, e2.symm⟩
          · exact h2 ⟨e1.symm, e2.symm⟩
          · exact h h3
        · exact fun h h3 => h (.inr h3)
theorem wireOk_iff (N hn hl : Int) (pre : List Wire) (x : Wire) : wireOk N hn hl pre x = true ↔
    (x.a, x.b) ∉ portsOf pre ∧ (x.c, x.d) ∉ portsOf pre ∧ x.a ≠ x.c ∧ (x.a, x.b) ≠ (hn, hl) ∧ (x.c, x.d) ≠ (hn, hl) ∧ existsB N x.a x.b = true ∧ existsB N x.c x.d = true := by
  rw [← peerL_none_iff, ← peerL_none_iff, ← portEq_ne (x.a, x.b) (hn, hl), ← portEq_ne (x.c, x.d) (hn, hl)]
  simp only [wireOk, Bool.and_eq_true, Bool.not_eq_true', Option.isSome_eq_false_iff, Option.isNone_iff_eq_none, beq_eq_false_iff_ne, ne_eq, and_assoc]
theorem wires_iff (N hn hl : Int) (ws : List Wire) : ∀ n, n ≤ ws.length → ((∀ i, i < n → wireAt N hn hl ws i = true) ↔
    (∀ p ∈ portsOf (ws.take n), existsB N p.1 p.2 = true) ∧ ((hn, hl) :: portsOf (ws.take n)).Nodup ∧ ∀ x ∈ ws.take n, x.a ≠ x.c)
  | 0, _ => by simp [portsOf]
  | n + 1, hn' => by
    have ih := wires_iff N hn hl ws n (by omega)
    obtain ⟨x, hx⟩ : ∃ x, ws[n]? = some x := ⟨_, List.getElem?_eq_getElem (by omega)⟩
    have e : ws.take (n + 1) = ws.take n ++ [x] := by rw [List.take_add_one, hx]; rfl
    have e2 := portsOf_take hx
    have h1 : (∀ i, i < n + 1 → wireAt N hn hl ws i = true) ↔ (∀ i, i < n → wireAt N hn hl ws i = true) ∧ wireOk N hn hl (ws.take n) x = true := by
      have hw : wireAt N hn hl ws n = wireOk N hn hl (ws.take n) x := by simp [wireAt, hx]
      constructor
      · exact fun h => ⟨fun i hi => h i (by omega), by rw [← hw]; exact h n (by omega)⟩
      · rintro ⟨h, h2⟩ i hi
        rcases Nat.lt_or_ge i n with h3 | h3
        · exact h i h3
        · obtain rfl : i = n := by omega
          rw [hw]; exact h2
    rw [h1, ih, wireOk_iff, e2, e]
    generalize portsOf (ws.take n) = L
    simp only [List.nodup_cons, List.nodup_append, List.mem_append, List.mem_cons, List.not_mem_nil, or_false, not_or]
    constructor
    · rintro ⟨⟨a1, ⟨a2, a3⟩, a4⟩, b1, b2, b3, b4, b5, b6, b7⟩
      refine ⟨?_, ⟨⟨a2, fun h => b4 h.symm, fun h => b5 h.symm⟩, a3, ⟨?_, by simp⟩, ?_⟩, ?_⟩
      · rintro p (h | rfl | rfl)
        · exact a1 p h
        · exact b6
        · exact b7
      · intro h; simp at h; exact b3 h.1
      · rintro p hp q (rfl | rfl) rfl
        · exact b1 hp
        · exact b2 hp
      · rintro y (h | rfl)
        · exact a4 y h
        · exact b3
    · rintro ⟨c1, ⟨⟨c2, c3, c4⟩, c5, c6, c7⟩, c8⟩
      refine ⟨⟨fun p hp => c1 p (.inl hp), ⟨c2, c5⟩, fun y hy => c8 y (.inl hy)⟩, fun h => c7 _ h _ (.inl rfl) rfl, fun h => c7 _ h _ (.inr rfl) rfl, c8 x (.inr rfl), fun h => c3 h.symm, fun h => c4 h.symm, c1 _ (.inr (.inl rfl)), c1 _ (.inr (.inr rfl))⟩

theorem joinB_eq (N hn hl : Int) (ws : List Wire) : joinB N hn hl ws = (decide (1 ≤ N) && decide (N ≤ 8) && decide (ws.length ≤ 32) && portsOk N ((hn, hl) :: portsOf ws) && diffAll ws) := by
  rw [Bool.eq_iff_iff]
  have h := wires_iff N hn hl ws ws.length (Nat.le_refl _)
  rw [List.take_length] at h
  simp only [joinB, Bool.and_eq_true, portsOk_iff, List.all_eq_true, List.mem_range, List.mem_cons, diffAll, bne_iff_ne, h]
  constructor
  · rintro ⟨⟨a, b⟩, c, d, e⟩
    refine ⟨⟨a, ?_, d⟩, e⟩
    rintro p (rfl | hp)
    · exact b
    · exact c p hp
  · rintro ⟨⟨a, b, d⟩, e⟩
    exact ⟨⟨a, b _ (.inl rfl)⟩, fun p hp => b p (.inr hp), d, e⟩
theorem mayB_join (N hn hl : Int) (ws : List Wire) : mayB N ws hn hl = (joinB N hn hl ws && decide (((orderOf ws hn hl).length : Int) = N)) := by
  rw [joinB_eq]; rfl
theorem joinB_net {N hn hl : Int} {ws : List Wire} (h : joinB N hn hl ws = true) : NetOk N ws hn := by
  rw [joinB_eq] at h
  simp only [Bool.and_eq_true, decide_eq_true_eq] at h
  exact net_of h.1.1.1.1 h.1.1.1.2 h.1.2
end Go.Proofs.Ytekamebpjjkifaa
