/- The tree of the program: a range over its iterator that fills an array. -/
import Derived.Test.YtadpenphiagdmaaR2
import Derived.Shelf.RegionOpen
namespace Go.Proofs.Ytadpenphiagdmaa
open Go.RowKit Go.Shelf
attribute [local go_sem] Oper.semAt_some

def tarr (N : Int) (l : List Pt) : Array Value := l.foldl (fun a p => a.setIfInBounds p.1.toNat (.int .i64 p.2)) (Array.replicate N.toNat (.int .i64 0))
theorem tarr_snoc (N : Int) (l : List Pt) (p : Pt) : tarr N (l ++ [p]) = (tarr N l).setIfInBounds p.1.toNat (.int .i64 p.2) := by simp [tarr, List.foldl_append]
theorem tarr_size (N : Int) (l : List Pt) : (tarr N l).size = N.toNat := by
  have : ∀ (l : List Pt) (a : Array Value), (l.foldl (fun a p => a.setIfInBounds p.1.toNat (.int .i64 p.2)) a).size = a.size := by
    intro l
    induction l with
    | nil => intro a; rfl
    | cons p r ih => intro a; rw [List.foldl_cons, ih]; simp
  rw [tarr, this]; simp

theorem made_zero (n : Nat) : madeCells (Value.int .i64 0).cells n = Array.replicate n (Value.int .i64 0) := by
  have e : (Value.int .i64 0).cells = #[.int .i64 0] := rfl
  rw [e]
  refine Array.ext (by simp [madeCells]) fun i h1 h2 => ?_
  simp [madeCells, Nat.mod_one]
theorem KeepX.alloc (X : Nat → Prop) (A : World) (o : Obj) : KeepX X A (A.alloc o) :=
  ⟨by simp, fun k o' _ h _ => (Below.heap_alloc A o k (Array.getElem?_eq_some_iff.1 h).1).trans h⟩
theorem KeepX.set (X : Nat → Prop) (A : World) {p : Addr} (hp : X p.block) (u : Value) : KeepX X A (A.setCell p u) :=
  ⟨by simp, fun k o' hk h _ => (Below.heap_setCell A p u k (by rintro rfl; exact hk hp)).trans h⟩
theorem loop_set {W : World} {k g t : Nat} {cs : Array Value} {r : Loop} (hb : Blk W g t cs) (i : Nat) (u : Value) (h : W.heap[k]? = some (Obj.loop r)) : (W.setCell ⟨g, i, none⟩ u).heap[k]? = some (Obj.loop r) :=
  (Below.heap_setCell W _ u k (by rintro rfl; unfold Blk at hb; rw [hb] at h; cases h)).trans h
theorem torder (g : Nat) (w : World) : Calls Try.prog 38 #[.pointer (some ⟨g, 0, none⟩)] w fun e w' => e = .returned (.func (.func 39) #[] #[.pointer (some ⟨w.heap.size, 0, none⟩)]) ∧ w' = w.alloc (.cells #[.pointer (some ⟨g, 0, none⟩)] 56) := by
  go_enter Try.func38, Try.ntmps38
  go_wp2
  go_ret
  exact ⟨rfl, rfl⟩

set_option maxRecDepth 100000 in
set_option maxHeartbeats 2000000 in
theorem ttree (N hn hl : Int) (A : Option Addr) (m c g r : Nat) (ws : List Wire) (hok : NetOk N ws hn) (w : World)
    (bg : Blk w g 63 #[.int .i64 N, .slice A m c, .int .i64 hn, .int .i64 hl, .map (some r)]) (hM : MapIs w r (pairs ws)) :
    Calls Try.prog 36 #[.pointer (some ⟨g, 0, none⟩)] w fun e w' => Below w.heap.size w w' ∧ ∃ b, w.heap.size ≤ b ∧
      e = .returned (.tuple #[.slice (some ⟨b, 0, none⟩) N.toNat N.toNat, .int .i64 (orderOf ws hn hl).length]) ∧ Blk w' b 3 (tarr N (orderOf ws hn hl)) := by
  refine (callsIn_wide (n := 9)).1 ?_
  refine callsIn_of_wp_marks Try.func36 rfl trivial ?_ rfl
  simp only [Try.ntmps36, List.size_toArray, List.length_cons, List.length_nil, Nat.reduceAdd, Nat.reduceSub, Array.replicate_succ, Array.replicate_zero, List.push_toArray, List.append_toArray, List.nil_append, List.cons_append]
  have cg0 := bg.cell 0
  simp at cg0
  have hh0 := hok.n1
  have hh8 := hok.n8
  have Hok := Lib.hid hok; clear hok
  obtain ⟨i0, hi0, hz0, hz1, hz2⟩ := info_parts int_info
  have hmk := run_make (P := Try.prog) w 28 3 i0 _ Try.underlying28 hi0 hz0 .i64 .i64 N N (by omega) (Int.le_refl _) (by rw [hz2]; omega) (by omega)
  rw [hz1, Nat.mul_one, show madeCells (Value.int .i64 0).cells N.toNat = tarr N [] from made_zero N.toNat] at hmk
  have hF : Found N (orderOf ws hn hl) := ordL_found Hok.out _ _ _ ⟨by simp, fun p hp => by simp at hp; subst hp; exact ⟨Hok.out.h0, Hok.out.h1⟩⟩
  have HF := Lib.hid hF; clear hF
  obtain ⟨W1, hW1⟩ : ∃ W1, ((w.alloc (.cells (tarr N []) 3)).alloc (.cells #[.slice (some ⟨w.heap.size, 0, none⟩) N.toNat N.toNat] 28)).alloc (.cells #[.int .i64 0] 3) = W1 := ⟨_, rfl⟩
  have ba : Blk W1 w.heap.size 3 (tarr N []) := by rw [← hW1]; exact ((Blk.new w _ _).alloc _).alloc _
  have b4 : Blk W1 (w.heap.size + 1) 28 #[.slice (some ⟨w.heap.size, 0, none⟩) N.toNat N.toNat] := by
    rw [← hW1]; have h := (Blk.new (w.alloc (.cells (tarr N []) 3)) 28 #[.slice (some ⟨w.heap.size, 0, none⟩) N.toNat N.toNat]).alloc (.cells #[.int .i64 0] 3); rwa [World.size_alloc] at h
  have b5 : Blk W1 (w.heap.size + 2) 3 #[.int .i64 0] := by
    rw [← hW1]; have h := (Blk.new ((w.alloc (.cells (tarr N []) 3)).alloc (.cells #[.slice (some ⟨w.heap.size, 0, none⟩) N.toNat N.toNat] 28)) 3 #[.int .i64 0]); rwa [World.size_alloc, World.size_alloc] at h
  have kB : Below w.heap.size w W1 := by rw [← hW1]; exact (((Below.refl _ w).alloc (Nat.le_refl _) _).alloc (by simp) _).alloc (by simp <;> omega) _
  have hsz : W1.heap.size = w.heap.size + 3 := by rw [← hW1]; simp
  have HW1 := Lib.hid hW1; clear hW1
  gi_wp2_with (refine ⟨trivial, ?_⟩; gi_at_call 38; rw [HW1.out]; refine (callsIn_wide.2 (torder g W1)).mono ?_; rintro e w' ⟨rfl, rfl⟩; rw [hsz])
  have bg' := bg.below kB bg.lt
  have hM' := hM.below kB hM.lt
  have lg := bg.lt
  have lr := hM.lt
  obtain ⟨W0, hW0⟩ : ∃ W0, W1.alloc (.cells #[.pointer (some ⟨g, 0, none⟩)] 56) = W0 := ⟨_, rfl⟩
  have hsz0 : W0.heap.size = w.heap.size + 4 := by rw [← hW0]; simp [hsz]
  have k1 : Below W1.heap.size W1 W0 := by rw [← hW0]; exact (Below.refl _ _).alloc (Nat.le_refl _) _
  have bb : Blk W0 (w.heap.size + 3) 56 #[.pointer (some ⟨g, 0, none⟩)] := by rw [← hW0, ← hsz]; exact Blk.new _ _ _
  have hgb : gbox W0 (w.heap.size + 3) g r N hn hl A m c ws := ⟨bb, bg'.call k1, hM'.call k1⟩
  have ba0 := ba.call k1
  have b40 := b4.call k1
  have b50 := b5.call k1
  have kB0 := kB.call kB.size k1
  rw [hW0]
  clear ba b4 b5 kB k1 bb bg' hM' hW0 HW1
  refine wpIn_range_all rfl rfl (gf := 39) (lb := #[.pointer (some ⟨w.heap.size + 3, 0, none⟩)]) rfl trivial (enters_of Try.func39 (by kernel_rfl) rfl) (X := fun k => k = w.heap.size ∨ k = w.heap.size + 2) (encs := fun p : Pt => #[ptV p]) (by rintro k (rfl | rfl) <;> omega)
    (order1 8 N hn hl A m c (w.heap.size + 3) g r ws Hok.out _ W0 (by rintro k (rfl | rfl) <;> omega) (by omega) (by omega) (by omega) hgb) (Below.refl _ _) (fun _ => rfl)
    (fun pre W => Blk W w.heap.size 3 (tarr N pre) ∧ Blk W (w.heap.size + 1) 28 #[.slice (some ⟨w.heap.size, 0, none⟩) N.toNat N.toNat] ∧ Blk W (w.heap.size + 2) 3 #[.int .i64 pre.length] ∧ Below w.heap.size w W)
    ?deep ⟨ba0, b40, b50, kB0⟩ ?round ?done
  case deep => exact fun s A B ⟨h1, h2, h3, h4⟩ k => ⟨h1.below k (by omega), h2.below k (by omega), h3.below k (by omega), h4.trans (k.mono (by omega))⟩
  case round =>
    rintro l pre x rr W ⟨ba, b4, b5, kB⟩ hxs hsW
    obtain ⟨x1, x2⟩ := x
    unfold ptV
    gi_wp2
    refine ⟨KeepX.alloc _ _ _, fun k r' h => (Below.heap_alloc W _ k (Array.getElem?_eq_some_iff.1 h).1).trans h, ?_⟩
    rintro W2 hgr ⟨hl0, hl1⟩
    have hne : ∀ k, k < w.heap.size + 4 → some k ≠ some l := fun k hk e => by injection e; omega
    have b6 := (Blk.new W 24 #[.int .i64 x1, .int .i64 x2]).grown hgr (fun e => by injection e; omega)
    have ba2 := (ba.alloc _).grown hgr (hne _ (by omega))
    have b42 := (b4.alloc _).grown hgr (hne _ (by omega))
    have b52 := (b5.alloc _).grown hgr (hne _ (by omega))
    have kB2 : Below w.heap.size w W2 := (kB.alloc kB.size (.cells #[.int .i64 x1, .int .i64 x2] 24)).grown hgr (by simp <;> omega) (fun k e => by injection e; omega)
    have hxr := HF.out.rg (x1, x2) (by rw [hxs]; simp)
    simp only at hxr
    obtain ⟨hx0, hxN⟩ := hxr
    have hp8 : pre.length ≤ 8 := by have h := HF.out.short hh8; rw [hxs] at h; simp at h; omega
    have c60 := b6.cell 0
    have c61 := b6.cell 1
    have c4 := b42.cell 0
    have c5 := b52.cell 0
    simp at c60 c61 c4 c5
    have fa := ba2.frozen x1.toNat
    have ca := ba2.cell x1.toNat
    rw [Array.getElem?_eq_getElem (by rw [tarr_size]; omega)] at ca
    have hxI : x1 < ((N.toNat : Nat) : Int) := by omega
    have f5 := b52.frozen 0
    have HXS := Lib.hid hxs; clear hxs
    clear ba b4 b5 kB hgr
    gi_wp2
    refine ⟨(KeepX.set _ _ (.inl rfl) _).trans (KeepX.set _ _ (.inr rfl) _), fun k r' h => loop_set (b52.far (by simp) _) 0 _ (loop_set ba2 _ _ h), ?_, (b42.far (by simp) _).far (by simp) _, ?_, (kB2.setCell (by simp) _).setCell (by simp <;> omega) _⟩
    · rw [tarr_snoc]; exact (ba2.set_ x1.toNat (.int .i64 x2)).far (by simp <;> omega) _
    · have h := (b52.far (p := ⟨w.heap.size, x1.toNat, none⟩) (by simp) (.int .i64 x2)).set_ 0 (.int .i64 ((pre.length : Int) + 1))
      simpa using h
  case done =>
    rintro D W ⟨ba, b4, b5, kB⟩ hK hD
    have c4 := b4.cell 0
    have c5 := b5.cell 0
    simp at c4 c5
    have hlen := HF.out.short hh8
    gi_wp2
    refine wpIn_wide_of_wp ?_
    go_quiet (fail)
    go_wp2
    gi_wp2
    have hKd : (W.drewN nq).heap[D]? = some (.deferred (some [])) := hK
    refine ⟨by simp, .inl ⟨_, _, rfl, run_takeDeferred hKd, ?_⟩⟩
    refine ⟨_, results_tmp2 rfl _ _ _, (kB.drewN' nq).putObj (by omega) _, w.heap.size, Nat.le_refl _, rfl, ?_⟩
    have hba : Blk (W.drewN nq) w.heap.size 3 (tarr N (orderOf ws hn hl)) := ba
    exact (World.putObj_heap_other (by omega)).trans hba
end Go.Proofs.Ytadpenphiagdmaa
