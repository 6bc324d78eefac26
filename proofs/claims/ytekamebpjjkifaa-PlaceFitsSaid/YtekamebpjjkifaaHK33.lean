/- Texts that belong together, joined: what each one holds is told ahead of it. -/
import Derived.Test.YtekamebpjjkifaaHK32
import Derived.Test.YtekamebpjjkifaaHK31
/- The processors of the branches, in the document: placed, walked. -/
namespace Go.Proofs.Ytekamebpjjkifaa
open Go.RowKit
set_option linter.unusedSimpArgs false
set_option linter.unusedVariables false

set_option maxRecDepth 100000 in
set_option maxHeartbeats 4000000 in
theorem rPlaced (k : KK) (B : Nat) (w : World) (hk : k.In w B) (hB : B ≤ w.heap.size) :
    Calls Try.prog 27 #[.agg k.flat] w (RetV (.bool (placedB k)) w) := by
  obtain ⟨W0, hW0⟩ : ∃ W, w.alloc (.cells k.flat 34) = W := ⟨_, rfl⟩
  have b0 : Blk W0 w.heap.size 34 k.flat := by rw [← hW0]; exact Blk.new w _ _
  have K0 : Below w.heap.size w W0 := by rw [← hW0]; exact (Below.refl _ _).alloc (Nat.le_refl _) _
  have hlen := hk.2.2.2.1
  unfold lenOk at hlen
  have HK0 := Lib.hid K0
  have HP0 := Lib.hid (hk.2.2.2.2.1.below (K0.mono hB))
  have HDUP := Lib.hid (fun (h0 : k.procs.length ≠ 0) (i j : Nat) (x : Int) (hi : k.procs[i]? = some x) (hj : k.procs[j]? = some x) (hne : i ≠ j) => placedB_dup h0 hi hj hne)
  have HRNG := Lib.hid (fun (h0 : k.procs.length ≠ 0) (i : Nat) (x : Int) (hi : k.procs[i]? = some x) (hr : ¬ (0 ≤ x ∧ x < 8)) => placedB_range h0 hi hr)
  have HEND := Lib.hid (fun (h0 : k.procs.length ≠ 0) (h : procsOk k.procs) => placedB_end h0 h)
  have HZ := Lib.hid (fun (h0 : k.procs.length = 0) => show placedB k = true by unfold placedB; rw [decide_eq_true h0]; rfl)
  obtain ⟨m, hm⟩ : ∃ m, k.procs.length = m := ⟨_, rfl⟩
  have HM := Lib.hid hm
  rw [hm] at hlen
  generalize placedB k = R at *
  simp only [KK.flat, hm] at b0 hW0 ⊢
  have e0 := b0.cell 0
  have e1 := b0.cell 1
  have e2 := b0.cell 2
  have e3 := b0.cell 3
  have e4 := b0.cell 4
  have e5 := b0.cell 5
  have e6 := b0.cell 6
  have e7 := b0.cell 7
  have e8 := b0.cell 8
  have e9 := b0.cell 9
  have e10 := b0.cell 10
  simp at e0 e1 e2 e3 e4 e5 e6 e7 e8 e9 e10
  clear b0 K0 hk hm
  by_cases h0 : m = 0
  · have HXX := Lib.hid (HZ.out (by rw [HM.out]; exact h0))
    have y : ((m : Int) == 0) = true := by simp [h0]
    clear h0
    go_enter Try.func27, Try.ntmps27
    go_wp2
    go_ret
    exact ⟨by refine ret_bool rfl ?_; rw [HXX.out], HK0.out⟩
  have y : ((m : Int) == 0) = false := by simp; omega
  have HH0 : Hid (k.procs.length ≠ 0) := Lib.hid (by rw [HM.out]; exact h0)
  obtain ⟨b, off, hA, hb, hc⟩ := ints_at' HP0.out rfl (k := 0) (by rw [HM.out]; omega)
  rw [hA] at e10
  have HC := Lib.hid hc
  clear hc hA h0
  go_enter Try.func27, Try.ntmps27
  go_wp2_with fail
  go_loopw [3, 4] (fun i j wr => ∃ n q : Nat, n ≤ m ∧ i = .int .i64 n ∧ Hid (procsOk (k.procs.take n)) ∧ wr = W0.drewN q) (fun i _ _ => m - (intOf i).toNat)
  case atStart => exact ⟨0, 0, Nat.zero_le _, rfl, Lib.hid ⟨by simp, by simp⟩, rfl⟩
  case round =>
    obtain ⟨n, q, hn, rfl, HOK, rfl⟩ := hrel
    by_cases hlt : n < m
    · have hltI : (n : Int) < m := by omega
      obtain ⟨x, hx⟩ : ∃ x, k.procs[n]? = some x := ⟨_, List.getElem?_eq_getElem (by rw [HM.out]; exact hlt)⟩
      have c0 := HC.out n x hx
      have HX := Lib.hid hx
      clear hx
      go_wp2_with fail
      go_loopw [4] (fun jv wx => ∃ t q2 : Nat, t ≤ n ∧ jv = .int .i64 t ∧ Hid (∀ s y, s < t → k.procs[s]? = some y → y ≠ x) ∧ wx = W0.drewN q2) (fun jv _ => n - (intOf jv).toNat)
      case atStart => exact ⟨0, q, Nat.zero_le _, rfl, Lib.hid (fun s y h => absurd h (by omega)), rfl⟩
      case round =>
        obtain ⟨t, q2, ht, rfl, HNE, rfl⟩ := hrel
        by_cases htn : t < n
        · have htI : (t : Int) < n := by omega
          have htm : (t : Int) < m := by omega
          obtain ⟨z, hz⟩ : ∃ z, k.procs[t]? = some z := ⟨_, List.getElem?_eq_getElem (by rw [HM.out]; omega)⟩
          have c1 := HC.out t z hz
          by_cases hzx : z = x
          · have HXX := Lib.hid (HDUP.out HH0.out t n x (by rw [hz, hzx]) HX.out (by omega))
            have hb1 : (z == x) = true := by simp [hzx]
            clear hz hzx
            go_upto_region 9 with fail
            go_quiet (fail)
            go_wp2
            go_ret
            exact ⟨by refine ret_bool rfl ?_; rw [HXX.out], by first | exact below_drewN HK0.out _ | exact below_drewN (below_drewN HK0.out _) _⟩
          · have hb1 : (z == x) = false := by simp [hzx]
            have HZ2 : Hid (∀ s y, s < t + 1 → k.procs[s]? = some y → y ≠ x) := Lib.hid (by
              intro s y hs hy
              by_cases hst : s = t
              · subst hst
                rw [hz] at hy
                injection hy with hy
                rw [← hy]; exact hzx
              · exact HNE.out s y (by omega) hy)
            clear hz hzx
            go_upto_region 9 with fail
            go_quiet (fail)
            go_wp2
            go_roundw
            case rel => exact ⟨t + 1, _, by omega, by go_num, HZ2, rfl⟩
            case measure => simp [intOf]; omega
        · have htI : ¬ (t : Int) < n := by omega
          obtain rfl : n = t := by omega
          by_cases hr : 0 ≤ x ∧ x < 8
          · have HN := Lib.hid (procsOk_snoc HX.out HOK.out HNE.out hr)
            obtain ⟨r1, r2⟩ := hr
            go_wp2
            go_roundw
            case rel => exact ⟨n + 1, _, by omega, by go_num, HN, rfl⟩
            case measure => simp [intOf]; omega
          · have HXX := Lib.hid (HRNG.out HH0.out n x HX.out hr)
            by_cases hx0 : x < 0
            · clear hr
              go_wp2
              go_ret
              exact ⟨by refine ret_bool rfl ?_; rw [HXX.out], by first | exact below_drewN HK0.out _ | exact below_drewN (below_drewN HK0.out _) _⟩
            · have hx8 : ¬ x < 8 := by omega
              clear hr
              go_wp2
              go_ret
              exact ⟨by refine ret_bool rfl ?_; rw [HXX.out], by first | exact below_drewN HK0.out _ | exact below_drewN (below_drewN HK0.out _) _⟩
    · have hltI : ¬ (n : Int) < m := by omega
      obtain rfl : m = n := by omega
      have hok := HOK.out
      rw [List.take_of_length_le (by rw [HM.out]; omega)] at hok
      have HXX := Lib.hid (HEND.out HH0.out hok)
      clear hok
      by_cases h10 : k.root.kind = 10
      · have y10 : ((k.root.kind : Int) == 10) = true := by simp [h10]
        have HR2 : Hid (R = decide (k.root.l.length = m)) := Lib.hid (by rw [HXX.out, HM.out]; simp [h10])
        clear h10
        go_wp2
        go_ret
        exact ⟨by refine ret_bool rfl ?_; rw [HR2.out, Bool.eq_iff_iff]; simp; omega, by first | exact below_drewN HK0.out _ | exact below_drewN (below_drewN HK0.out _) _⟩
      · have y10 : ((k.root.kind : Int) == 10) = false := by simp; omega
        have HR2 : Hid (R = false) := Lib.hid (by rw [HXX.out]; simp [h10])
        clear h10
        go_wp2
        go_ret
        exact ⟨by refine ret_bool rfl ?_; rw [HR2.out], by first | exact below_drewN HK0.out _ | exact below_drewN (below_drewN HK0.out _) _⟩
end Go.Proofs.Ytekamebpjjkifaa

/- Which kernels are valid, in the document: May, walked. -/
namespace Go.Proofs.Ytekamebpjjkifaa
open Go.RowKit
set_option linter.unusedSimpArgs false
set_option linter.unusedVariables false

theorem vars_at' {w : World} {B n : Nat} {A : Option Addr} {vs : List KVar} (h : Reads w B 2 A n (varsC vs)) (hn : vs.length = n) (h0 : 0 < n) :
    ∃ b off, A = some ⟨b, off, none⟩ ∧ b < B ∧ ∀ j x, vs[j]? = some x → w.cell? ⟨b, off + j * 2, none⟩ = some (.int .u8 x.kind) ∧ w.cell? ⟨b, off + j * 2 + 1, none⟩ = some (.int .i64 x.dim) := by
  subst hn
  obtain ⟨b, off, rfl, hb, hc⟩ := h.addr (by omega) (by decide)
  refine ⟨b, off, rfl, hb, fun j x hx => ?_⟩
  have f := fun i u (hi : i < 2) hu => hc (j * 2 + i) u (by unfold varsC; rw [flat_at (f := fun x : KVar => x.cells.toList) (fun _ => rfl) hx i hi]; exact hu)
  refine ⟨by simpa using f 0 (.int .u8 x.kind) (by decide) rfl, ?_⟩
  have := f 1 (.int .i64 x.dim) (by decide) rfl
  rwa [← Nat.add_assoc] at this
theorem hosts_at' {w : World} {B n : Nat} {A : Option Addr} {l : List Nat} (h : Reads w B 1 A n (hostsC l)) (hn : l.length = n) (h0 : 0 < n) :
    ∃ b off, A = some ⟨b, off, none⟩ ∧ b < B ∧ ∀ j x, l[j]? = some x → w.cell? ⟨b, off + j, none⟩ = some (.int .u8 (x : Nat)) := by
  subst hn
  obtain ⟨b, off, rfl, hb, hc⟩ := h.addr (by omega) (by decide)
  refine ⟨b, off, rfl, hb, fun j x hx => ?_⟩
  have := hc (j * 1) (.int .u8 (x : Nat)) (by unfold hostsC; rw [show j * 1 = j * 1 + 0 by omega, flat_at (f := fun x : Nat => [Value.int .u8 (x : Nat)]) (fun _ => rfl) hx 0 (by decide)]; rfl)
  simpa using this
def varB (x : KVar) : Bool := primB x.kind && decide (0 ≤ x.dim ∧ x.dim ≤ 64)
theorem hostsB_drop : ∀ {l : List Nat} {i : Nat}, hostsB i l = true ↔ ∀ j h, l[j]? = some h → hostB (i + j) h = true
  | [], i => by simp [hostsB]
  | x :: l, i => by
    rw [hostsB, Bool.and_eq_true, hostsB_drop (l := l)]
    constructor
    · rintro ⟨h1, h2⟩ j h hj
      cases j with
      | zero => simp at hj; subst hj; simpa using h1
      | succ j => rw [show i + (j + 1) = i + 1 + j by omega]; exact h2 j h (by simpa using hj)
    · intro h
      refine ⟨by simpa using h 0 x (by simp), fun j y hy => ?_⟩
      rw [show i + 1 + j = i + (j + 1) by omega]
      exact h (j + 1) y (by simpa using hy)
/-- The parts of mayK. -/
theorem mayK_eq (k : KK) : mayK k = (decide (k.vars.length ≤ 256 ∧ 2 ≤ k.chans.length ∧ k.chans.length ≤ 64) && placedB k && k.vars.all varB && hostsB 0 k.chans && (roomP k.vars k.chans.length 0 false 2048 k.root).isSome) := rfl
theorem mayK_var {k : KK} {j : Nat} {x : KVar} (h : k.vars[j]? = some x) (hx : varB x = false) : mayK k = false := by
  rw [mayK_eq, show k.vars.all varB = false by rw [List.all_eq_false]; exact ⟨x, List.mem_of_getElem? h, by simp [hx]⟩]
  simp
theorem mayK_host {k : KK} {j : Nat} {x : Nat} (h : k.chans[j]? = some x) (hx : hostB j x = false) : mayK k = false := by
  have : hostsB 0 k.chans = false := by
    cases hh : hostsB 0 k.chans with
    | false => rfl
    | true =>
      have := hostsB_drop.1 hh j x h
      rw [Nat.zero_add, hx] at this
      cases this
  rw [mayK_eq, this]
  simp
theorem KOk.of {k : KK} (h1 : k.vars.length ≤ 256 ∧ 2 ≤ k.chans.length ∧ k.chans.length ≤ 64) (h2 : k.vars.all varB = true) : KOk k := by
  refine ⟨h1.1, h1.2, fun x hx => ?_⟩
  have := List.all_eq_true.1 h2 x hx
  simp only [varB, Bool.and_eq_true, decide_eq_true_eq] at this
  exact ⟨this.1, this.2⟩
theorem mayK_ok {k : KK} (h : mayK k = true) : KOk k := by
  rw [mayK_eq] at h
  simp only [Bool.and_eq_true] at h
  exact KOk.of (by simpa using h.1.1.1.1) h.1.1.2
end Go.Proofs.Ytekamebpjjkifaa

/- Which kernels are valid, in the document: May, walked. -/
namespace Go.Proofs.Ytekamebpjjkifaa
open Go.RowKit
set_option linter.unusedSimpArgs false
set_option linter.unusedVariables false

/-- The kernel's box, in a world. -/
structure MyAt (w W : World) (ks : Array Value) : Prop where
  bel : Below w.heap.size w W
  kb : Blk W w.heap.size 34 ks
theorem MyAt.call {w W W1 : World} {ks : Array Value} (h : MyAt w W ks) (hb : Below W.heap.size W W1) : MyAt w W1 ks := ⟨h.bel.trans (hb.mono h.bel.size), h.kb.call hb⟩
theorem all_snoc {α : Type} {l : List α} {f : α → Bool} {j : Nat} {x : α} (h : l[j]? = some x) (ha : (l.take j).all f = true) (hx : f x = true) : (l.take (j + 1)).all f = true := by
  rw [List.take_add_one, h, Option.toList_some, List.all_append, ha]
  simp [hx]
theorem mayK_sizes {k : KK} (h : ¬ (k.vars.length ≤ 256 ∧ 2 ≤ k.chans.length ∧ k.chans.length ≤ 64)) : mayK k = false := by
  rw [mayK_eq, decide_eq_false h]; rfl
theorem mayK_placed {k : KK} (h : placedB k = false) : mayK k = false := by
  rw [mayK_eq, h]; simp
theorem mayK_end {k : KK} (h1 : k.vars.length ≤ 256 ∧ 2 ≤ k.chans.length ∧ k.chans.length ≤ 64) (h2 : placedB k = true) (h3 : k.vars.all varB = true) (h4 : ∀ j h, k.chans[j]? = some h → hostB j h = true) :
    mayK k = (roomP k.vars k.chans.length 0 false 2048 k.root).isSome := by
  rw [mayK_eq, decide_eq_true h1, h2, h3, hostsB_drop.2 (fun j h hj => by rw [Nat.zero_add]; exact h4 j h hj)]
  rfl
theorem roomZ_some (o : Option Nat) : decide (0 ≤ roomZ o) = o.isSome := by cases o <;> simp [roomZ]
set_option maxRecDepth 100000 in
set_option maxHeartbeats 8000000 in
theorem rMay16 (k : KK) (B : Nat) (w : World) (hk : k.In w B) (hB : B ≤ w.heap.size) :
    Calls Try.prog 12 #[.agg k.flat] w (RetV (.bool (mayK k)) w) := by
  obtain ⟨W0, hW0⟩ : ∃ W, w.alloc (.cells k.flat 34) = W := ⟨_, rfl⟩
  have b0 : Blk W0 w.heap.size 34 k.flat := by rw [← hW0]; exact Blk.new w _ _
  have K0 : Below w.heap.size w W0 := by rw [← hW0]; exact (Below.refl _ _).alloc (Nat.le_refl _) _
  have HW : Hid (∀ w1 : World, Below w.heap.size w w1 → k.In w1 B ∧ B ≤ w1.heap.size) := Lib.hid fun w1 hb => ⟨hk.below (hb.mono hB), Nat.le_trans hB hb.size⟩
  have S : Hid (MyAt w W0 k.flat) := Lib.hid ⟨K0, b0⟩
  have HP := Lib.hid (rPlaced k B W0 (HW.out W0 K0).1 (HW.out W0 K0).2)
  have HSZ := Lib.hid (fun h => mayK_sizes (k := k) h)
  have HPL := Lib.hid (fun h => mayK_placed (k := k) h)
  have HVR := Lib.hid (fun (j : Nat) (x : KVar) (h : k.vars[j]? = some x) (hx : varB x = false) => mayK_var h hx)
  have HHS := Lib.hid (fun (j : Nat) (x : Nat) (h : k.chans[j]? = some x) (hx : hostB j x = false) => mayK_host h hx)
  have HEN := Lib.hid (fun h1 h2 h3 h4 => mayK_end (k := k) h1 h2 h3 h4)
  have HLF := Lib.hid (fun (ok : KOk k) (w1 : World) (hb : Below w.heap.size w w1) => show Calls Try.prog 29 #[.agg (innerV k 0 false), .agg k.root.cells, .int .i64 2048] w1 (RetV (.int .i64 (roomZ (roomP k.vars k.chans.length 0 false 2048 k.root))) w1) from
    rLeft k ok k.root 0 2048 false B w1 (by omega) (by omega) (HW.out w1 hb).1 (HW.out w1 hb).1.2.2.1 (HW.out w1 hb).2)
  generalize mayK k = R at *
  obtain ⟨nv, hnv⟩ : ∃ q, k.vars.length = q := ⟨_, rfl⟩
  obtain ⟨nc, hnc⟩ : ∃ q, k.chans.length = q := ⟨_, rfl⟩
  have HNV := Lib.hid hnv
  have HNC := Lib.hid hnc
  simp only [KK.flat, hnv, hnc] at b0 hW0 S HP ⊢
  have e0 := b0.cell 0
  have e1 := b0.cell 1
  have e2 := b0.cell 2
  have e3 := b0.cell 3
  have e4 := b0.cell 4
  have e5 := b0.cell 5
  have e6 := b0.cell 6
  have e7 := b0.cell 7
  have e8 := b0.cell 8
  have e9 := b0.cell 9
  have e10 := b0.cell 10
  simp at e0 e1 e2 e3 e4 e5 e6 e7 e8 e9 e10
  clear b0 K0 hk
  by_cases h1 : 256 < nv
  · have HXX := Lib.hid (HSZ.out (by rw [hnv]; omega))
    have y1 : (256 : Int) < nv := by omega
    clear hnv hnc
    go_enter Try.func12, Try.ntmps12
    go_wp2
    go_ret
    exact ⟨by refine ret_bool rfl ?_; rw [HXX.out], S.out.bel⟩
  have y1 : ¬ (256 : Int) < nv := by omega
  by_cases h2 : nc < 2
  · have HXX := Lib.hid (HSZ.out (by rw [hnc]; omega))
    have y2 : (nc : Int) < 2 := by omega
    clear hnv hnc
    go_enter Try.func12, Try.ntmps12
    go_wp2
    go_ret
    exact ⟨by refine ret_bool rfl ?_; rw [HXX.out], S.out.bel⟩
  have y2 : ¬ (nc : Int) < 2 := by omega
  by_cases h3 : 64 < nc
  · have HXX := Lib.hid (HSZ.out (by rw [hnc]; omega))
    have y3 : (64 : Int) < nc := by omega
    clear hnv hnc
    go_enter Try.func12, Try.ntmps12
    go_wp2
    go_ret
    exact ⟨by refine ret_bool rfl ?_; rw [HXX.out], S.out.bel⟩
  have y3 : ¬ (64 : Int) < nc := by omega
  have HS1 : Hid (k.vars.length ≤ 256 ∧ 2 ≤ k.chans.length ∧ k.chans.length ≤ 64) := Lib.hid (by rw [hnv, hnc]; omega)
  clear hnv hnc
  cases hpb : placedB k with
  | false =>
    have HXX := Lib.hid (HPL.out hpb)
    rw [hpb] at HP
    clear hpb
    go_enter Try.func12, Try.ntmps12
    go_wp2_with (go_at_call 27; (with_reducible refine HP.out.mono ?_); rintro e1 w1 ⟨rfl, hb1⟩)
    go_ret
    exact ⟨by refine ret_bool rfl ?_; rw [HXX.out], S.out.bel.trans (hb1.mono S.out.bel.size)⟩
  | true =>
    rw [hpb] at HP
    have HPB := Lib.hid hpb
    clear hpb
    go_enter Try.func12, Try.ntmps12
    go_wp2_with (first
      | (go_at_call 27; (with_reducible refine HP.out.mono ?_); rintro e1 w1 ⟨rfl, hb1⟩
         replace S := Lib.hid (S.out.call hb1)
         have x1 := S.out.kb
         have e0 := x1.cell 0
         have e1 := x1.cell 1
         have e2 := x1.cell 2
         have e3 := x1.cell 3
         have e4 := x1.cell 4
         have e5 := x1.cell 5
         have e6 := x1.cell 6
         have e7 := x1.cell 7
         have e8 := x1.cell 8
         have e9 := x1.cell 9
         have e10 := x1.cell 10
         simp at e0 e1 e2 e3 e4 e5 e6 e7 e8 e9 e10
         clear x1 hb1))
    go_loopw [3] (fun i wr => ∃ n : Nat, n ≤ nv ∧ i = .int .i64 n ∧ Hid ((k.vars.take n).all varB = true) ∧ wr = w1) (fun i _ => nv - (intOf i).toNat)
    case atStart => exact ⟨0, Nat.zero_le _, rfl, Lib.hid (by simp), rfl⟩
    case round =>
      obtain ⟨n, hn, rfl, HV, rfl⟩ := hrel
      by_cases hlt : n < nv
      · have hltI : (n : Int) < nv := by omega
        have hin := HW.out wr S.out.bel
        obtain ⟨b, off, x, hA, hb, hx, hmx, c0, c1⟩ := vars_at hin.1.1.2.1 rfl (k := n) (by rw [HNV.out]; exact hlt)
        rw [hA] at e0
        have HX := Lib.hid hx
        have HPr := Lib.hid (rPrim x.kind wr)
        have HVB := Lib.hid (show varB x = (primB x.kind && decide (0 ≤ x.dim ∧ x.dim ≤ 64)) from rfl)
        clear hx hmx hA hin
        generalize primB x.kind = pb at *
        cases pb with
        | false =>
          have HXX := Lib.hid (HVR.out n x HX.out (by rw [HVB.out]; rfl))
          go_wp2_with (go_at_call 28; (with_reducible refine HPr.out.mono ?_); rintro e1 w2 ⟨rfl, rfl⟩)
          go_ret
          exact ⟨by refine ret_bool rfl ?_; rw [HXX.out], S.out.bel⟩
        | true =>
          by_cases hd0 : x.dim < 0
          · have HXX := Lib.hid (HVR.out n x HX.out (by rw [HVB.out, decide_eq_false (by omega)]; rfl))
            go_wp2_with (go_at_call 28; (with_reducible refine HPr.out.mono ?_); rintro e1 w2 ⟨rfl, rfl⟩)
            go_ret
            exact ⟨by refine ret_bool rfl ?_; rw [HXX.out], S.out.bel⟩
          by_cases hd1 : 64 < x.dim
          · have HXX := Lib.hid (HVR.out n x HX.out (by rw [HVB.out, decide_eq_false (by omega)]; rfl))
            go_wp2_with (go_at_call 28; (with_reducible refine HPr.out.mono ?_); rintro e1 w2 ⟨rfl, rfl⟩)
            go_ret
            exact ⟨by refine ret_bool rfl ?_; rw [HXX.out], S.out.bel⟩
          · have HXX := Lib.hid (all_snoc HX.out HV.out (by rw [HVB.out, decide_eq_true (by omega)]; rfl))
            go_wp2_with (go_at_call 28; (with_reducible refine HPr.out.mono ?_); rintro e1 w2 ⟨rfl, rfl⟩)
            go_roundw
            case rel => exact ⟨n + 1, by omega, by go_num, HXX, trivial⟩
            case measure => simp [intOf]; omega
      · have hltI : ¬ (n : Int) < nv := by omega
        obtain rfl : nv = n := by omega
        have hv := HV.out
        rw [List.take_of_length_le (by rw [HNV.out]; omega)] at hv
        have HVA := Lib.hid hv
        clear hv HV
        go_wp2_with fail
        have HLF := Lib.hid (HLF.out (KOk.of HS1.out HVA.out))
        have HEN := Lib.hid (HEN.out HS1.out HPB.out HVA.out)
        clear HP HSZ HPL HVR
        go_loopw [4] (fun i wx => ∃ n : Nat, n ≤ nc ∧ i = .int .i64 n ∧ Hid (∀ j h, j < n → k.chans[j]? = some h → hostB j h = true) ∧ Hid (MyAt w wx #[.slice k.Av nv k.cv, .slice k.Ac nc k.cc, .int .u8 k.root.kind, .int .i64 k.root.c, .int .i64 k.root.v, .int .u8 k.root.item, .slice k.root.At k.root.tos.length k.root.ct, .slice k.root.Ae k.root.e.length k.root.ce, .slice k.root.Ag k.root.g.length k.root.cg, .slice k.root.Al k.root.l.length k.root.cl, .slice k.Ap k.procs.length k.cp])) (fun i _ => nc - (intOf i).toNat)
        case atStart => exact ⟨0, Nat.zero_le _, rfl, Lib.hid (fun j h hj => absurd hj (by omega)), S⟩
        case round =>
          clear S e0 e1 e2 e3 e4 e5 e6 e7 e8 e9 e10
          obtain ⟨n, hn2, rfl, HH, S⟩ := hrel
          rename_i wr
          have x1 := S.out.kb
          have e0 := x1.cell 0
          have e1 := x1.cell 1
          have e2 := x1.cell 2
          have e3 := x1.cell 3
          have e4 := x1.cell 4
          have e5 := x1.cell 5
          have e6 := x1.cell 6
          have e7 := x1.cell 7
          have e8 := x1.cell 8
          have e9 := x1.cell 9
          have e10 := x1.cell 10
          simp at e0 e1 e2 e3 e4 e5 e6 e7 e8 e9 e10
          clear x1
          by_cases hlt2 : n < nc
          · have hltI2 : (n : Int) < nc := by omega
            have hin := HW.out wr S.out.bel
            obtain ⟨b, off, x, hA, hb, hx, hmx, c0⟩ := hosts_at hin.1.2.1.2.1 rfl (k := n) (by rw [HNC.out]; exact hlt2)
            rw [hA] at e1
            have HCA := Lib.hid hA
            have HX := Lib.hid hx
            clear hx hmx hA hin
            by_cases hn2' : n < 2
            · have hnI : (n : Int) < 2 := by omega
              obtain ⟨W1, hW1⟩ : ∃ W, wr.alloc (.cells #[.int .u8 1, .int .u8 2] 83) = W := ⟨_, rfl⟩
              have K1 : Below wr.heap.size wr W1 := by rw [← hW1]; exact (Below.refl _ _).alloc (Nat.le_refl _) _
              have b1 : Blk W1 wr.heap.size 83 #[.int .u8 1, .int .u8 2] := by rw [← hW1]; exact Blk.new _ _ _
              have S5 := Lib.hid (S.out.call K1)
              have x1 := S5.out.kb
              have g0 := x1.cell 0
              have g1 := x1.cell 1
              have g2 := x1.cell 2
              have g3 := x1.cell 3
              have g4 := x1.cell 4
              have g5 := x1.cell 5
              have g6 := x1.cell 6
              have g7 := x1.cell 7
              have g8 := x1.cell 8
              have g9 := x1.cell 9
              have g10 := x1.cell 10
              simp at g0 g1 g2 g3 g4 g5 g6 g7 g8 g9 g10
              rw [HCA.out] at g1
              have c1 := (K1.cell (p := ⟨b, off + n, none⟩) (Nat.lt_of_lt_of_le hb (HW.out wr S.out.bel).2)).trans c0
              have d0 := b1.cell n
              clear x1 K1 b1
              by_cases hn0 : n = 0
              · have HHB : Hid (hostB n x = (x == 1)) := Lib.hid (by rw [hn0]; rfl)
                rw [show (#[Value.int .u8 1, Value.int .u8 2] : Array Value)[n]? = some (.int .u8 1) by rw [hn0]; rfl] at d0
                clear hn0 hn2'
                by_cases hxe : x = 1
                · have z1 : ((x : Int) == 1) = true := by simp [hxe]
                  have z2 : ((x : Int) != 1) = false := by simp [hxe]
                  have HXX : Hid (∀ j h, j < n + 1 → k.chans[j]? = some h → hostB j h = true) := Lib.hid (by
                    intro j h hj hh
                    by_cases hjn : j = n
                    · rw [hjn, HX.out] at hh
                      injection hh with hh
                      rw [hjn, ← hh, HHB.out, hxe]; rfl
                    · exact HH.out j h (by omega) hh)
                  clear hxe
                  go_wp2
                  go_roundw
                  case rel => exact ⟨n + 1, by omega, by go_num, HXX, S5⟩
                  case measure => simp [intOf]; omega
                · have z1 : ((x : Int) == 1) = false := by simp; omega
                  have z2 : ((x : Int) != 1) = true := by simp; omega
                  have HXX := Lib.hid (HHS.out n x HX.out (by rw [HHB.out]; simp; omega))
                  clear hxe
                  go_wp2
                  go_ret
                  exact ⟨by refine ret_bool rfl ?_; rw [HXX.out], S5.out.bel⟩
              · have HHB : Hid (hostB n x = (x == 2)) := Lib.hid (by rw [show n = 1 by omega]; rfl)
                rw [show (#[Value.int .u8 1, Value.int .u8 2] : Array Value)[n]? = some (.int .u8 2) by rw [show n = 1 by omega]; rfl] at d0
                clear hn0 hn2'
                by_cases hxe : x = 2
                · have z1 : ((x : Int) == 2) = true := by simp [hxe]
                  have z2 : ((x : Int) != 2) = false := by simp [hxe]
                  have HXX : Hid (∀ j h, j < n + 1 → k.chans[j]? = some h → hostB j h = true) := Lib.hid (by
                    intro j h hj hh
                    by_cases hjn : j = n
                    · rw [hjn, HX.out] at hh
                      injection hh with hh
                      rw [hjn, ← hh, HHB.out, hxe]; rfl
                    · exact HH.out j h (by omega) hh)
                  clear hxe
                  go_wp2
                  go_roundw
                  case rel => exact ⟨n + 1, by omega, by go_num, HXX, S5⟩
                  case measure => simp [intOf]; omega
                · have z1 : ((x : Int) == 2) = false := by simp; omega
                  have z2 : ((x : Int) != 2) = true := by simp; omega
                  have HXX := Lib.hid (HHS.out n x HX.out (by rw [HHB.out]; simp; omega))
                  clear hxe
                  go_wp2
                  go_ret
                  exact ⟨by refine ret_bool rfl ?_; rw [HXX.out], S5.out.bel⟩
            · have hnI : ¬ (n : Int) < 2 := by omega
              have HHB : Hid (hostB n x = (x == 0)) := Lib.hid (by unfold hostB; rw [if_neg (by omega), if_neg (by omega)])
              clear hn2'
              by_cases hxe : x = 0
              · have z1 : ((x : Int) == 0) = true := by simp [hxe]
                have z2 : ((x : Int) != 0) = false := by simp [hxe]
                have HXX : Hid (∀ j h, j < n + 1 → k.chans[j]? = some h → hostB j h = true) := Lib.hid (by
                  intro j h hj hh
                  by_cases hjn : j = n
                  · rw [hjn, HX.out] at hh
                    injection hh with hh
                    rw [hjn, ← hh, HHB.out, hxe]; rfl
                  · exact HH.out j h (by omega) hh)
                clear hxe
                go_wp2
                go_roundw
                case rel => exact ⟨n + 1, by omega, by go_num, HXX, S⟩
                case measure => simp [intOf]; omega
              · have z1 : ((x : Int) == 0) = false := by simp; omega
                have z2 : ((x : Int) != 0) = true := by simp; omega
                have HXX := Lib.hid (HHS.out n x HX.out (by rw [HHB.out]; simp; omega))
                clear hxe
                go_wp2
                go_ret
                exact ⟨by refine ret_bool rfl ?_; rw [HXX.out], S.out.bel⟩
          · have hltI2 : ¬ (n : Int) < nc := by omega
            obtain rfl : nc = n := by omega
            have HXX := Lib.hid (HEN.out (fun j h hj => HH.out j h (by
              have := (List.getElem?_eq_some_iff.1 hj).1
              rw [HNC.out] at this
              exact this) hj))
            have HXY := Lib.hid (HXX.out.trans (roomZ_some _).symm)
            generalize roomZ (roomP k.vars k.chans.length 0 false 2048 k.root) = z at *
            simp only [innerV, KP.cells, HNV.out, HNC.out] at HLF
            go_wp2_with (go_at_call 29; (with_reducible refine (HLF.out _ S.out.bel).mono ?_); rintro e1 w2 ⟨rfl, hb2⟩)
            go_ret
            exact ⟨by refine ret_bool rfl ?_; rw [HXY.out], S.out.bel.trans (hb2.mono S.out.bel.size)⟩
end Go.Proofs.Ytekamebpjjkifaa

/- Which kernels are valid, in the program: May, walked. -/
namespace Go.Proofs.Ytekamebpjjkifaa
open Go.RowKit
set_option linter.unusedSimpArgs false
set_option linter.unusedVariables false

/-- The walk of May behind the processors, from what is left of the kernel. -/
theorem kMay_end {k : KK} {R : Bool} {bc : Nat} {w W2 w1 : World} {e : Ending} (hR : R = (roomP k.vars k.chans.length 0 false 2048 k.root).isSome) (hw : Below w.heap.size w W2) (hb : w.heap.size ≤ bc) (hlt : bc < W2.heap.size)
    (h : RetPr (roomP k.vars k.chans.length 0 false 2048 k.root) bc k W2 e w1) : ∃ b : Bool, e = .returned (.bool b) ∧ b = R ∧ Below w.heap.size w w1 := by
  obtain ⟨hu, b, z, rfl, -, hr⟩ := h
  refine ⟨b, rfl, ?_, hw.trans ((hu.below hlt).mono hb)⟩
  rcases hr with ⟨h1, rfl⟩ | ⟨r, h1, rfl, -⟩
  · rw [hR, h1]; rfl
  · rw [hR, h1]; rfl
set_option maxRecDepth 100000 in
set_option maxHeartbeats 4000000 in
theorem kMay_sizes (k : KK) (B : Nat) (w : World) (hk : k.In w B) (hB : B ≤ w.heap.size) (h : ¬ (k.vars.length ≤ 256 ∧ 2 ≤ k.chans.length ∧ k.chans.length ≤ 64)) :
    Calls Try.prog 20 #[.agg k.flat] w (RetV (.bool false) w) := by
  obtain ⟨W0, hW0⟩ : ∃ W, w.alloc (.cells k.flat 34) = W := ⟨_, rfl⟩
  have b0 : Blk W0 w.heap.size 34 k.flat := by rw [← hW0]; exact Blk.new w _ _
  have K0 : Below w.heap.size w W0 := by rw [← hW0]; exact (Below.refl _ _).alloc (Nat.le_refl _) _
  have HK0 := Lib.hid K0
  obtain ⟨nv, hnv⟩ : ∃ q, k.vars.length = q := ⟨_, rfl⟩
  obtain ⟨nc, hnc⟩ : ∃ q, k.chans.length = q := ⟨_, rfl⟩
  rw [hnv, hnc] at h
  simp only [KK.flat, hnv, hnc] at b0 hW0 ⊢
  have e0 := b0.cell 0
  have e1 := b0.cell 1
  have e2 := b0.cell 2
  have e3 := b0.cell 3
  have e4 := b0.cell 4
  have e5 := b0.cell 5
  have e6 := b0.cell 6
  have e7 := b0.cell 7
  have e8 := b0.cell 8
  have e9 := b0.cell 9
  have e10 := b0.cell 10
  simp at e0 e1 e2 e3 e4 e5 e6 e7 e8 e9 e10
  clear b0 K0 hk hnv hnc
  by_cases h1 : 256 < nv
  · have y1 : (256 : Int) < nv := by omega
    clear h
    go_enter Try.func20, Try.ntmps20
    go_wp2
    go_ret
    exact ⟨rfl, HK0.out⟩
  have y1 : ¬ (256 : Int) < nv := by omega
  by_cases h2 : nc < 2
  · have y2 : (nc : Int) < 2 := by omega
    clear h
    go_enter Try.func20, Try.ntmps20
    go_wp2
    go_ret
    exact ⟨rfl, HK0.out⟩
  have y2 : ¬ (nc : Int) < 2 := by omega
  have y3 : (64 : Int) < nc := by omega
  clear h
  go_enter Try.func20, Try.ntmps20
  go_wp2
  go_ret
  exact ⟨rfl, HK0.out⟩
end Go.Proofs.Ytekamebpjjkifaa
