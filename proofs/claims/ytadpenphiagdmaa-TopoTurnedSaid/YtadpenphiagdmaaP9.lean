/- Plain: each node but the root is counted once as a child; the lists that the law TopoNear makes. -/
import Derived.Test.YtadpenphiagdmaaP8
namespace Go.Proofs.Ytadpenphiagdmaa
open Go.RowKit
set_option linter.unusedVariables false
set_option linter.unusedSimpArgs false

def dOf (ws : List Wire) (hn hl x : Int) : Int := (downOf ws hn hl x).2
theorem down_of {N hn hl : Int} {ws : List Wire} (h : mayB N ws hn hl = true) {x : Int} (h0 : 0 ≤ x) (h1 : x < N) (hx : x ≠ hn) :
    peerL ws x (upOf ws hn hl x).2 = some (parentOf ws hn hl x, dOf ws hn hl x) ∧ peerL ws (parentOf ws hn hl x) (dOf ws hn hl x) = some (upOf ws hn hl x) := by
  obtain ⟨d, hd⟩ := up_peer h h0 h1 hx
  have hup := up_tints h x h0 h1
  have hdn : downOf ws hn hl x = (parentOf ws hn hl x, d) := by
    rw [downOf, show (upOf ws hn hl x).1 = x from by rw [hup], hd]; rfl
  have e : dOf ws hn hl x = d := by rw [dOf, hdn]
  rw [e]
  refine ⟨hd, ?_⟩
  have := peerL_sym (may_nodup h) hd
  rw [this]
  rw [hup]
/-- A link that leads to a child leads to a node whose way up it is. -/
theorem child_of {N hn hl n : Int} {ws : List Wire} (h : mayB N ws hn hl = true) {k : Nat} (hc : childB ws hn hl n k = true) :
    ∃ x, 0 ≤ x ∧ x < N ∧ x ≠ hn ∧ parentOf ws hn hl x = n ∧ dOf ws hn hl x = k ∧ peerL ws n (k : Nat) = some (x, (upOf ws hn hl x).2) := by
  unfold childB at hc
  split at hc
  · rename_i q hq
    simp only [Bool.and_eq_true, bne_iff_ne, ne_eq, portEq, decide_eq_true_eq] at hc
    obtain ⟨h1, h2, h3⟩ := hc
    have hr := peerL_ok (mayB_net h) hq
    have hup := up_tints h q.1 hr.1 hr.2
    obtain ⟨d1, d2⟩ := down_of h hr.1 hr.2 h1
    have hs := peerL_sym (may_nodup h) hq
    rw [h3, hs] at d1
    injection d1 with d1
    injection d1 with d1 d3
    refine ⟨q.1, hr.1, hr.2, h1, d1.symm, d3.symm, ?_⟩
    rw [hq, h3]
  · cases hc
theorem child_mk {N hn hl x : Int} {ws : List Wire} (h : mayB N ws hn hl = true) (h0 : 0 ≤ x) (h1 : x < N) (hx : x ≠ hn) :
    dOf ws hn hl x ∈ rchildren ws hn hl (parentOf ws hn hl x) 4 := by
  obtain ⟨d1, d2⟩ := down_of h h0 h1 hx
  have hup := up_tints h x h0 h1
  have hm := peerL_mem d1
  have hl4 : 0 ≤ dOf ws hn hl x ∧ dOf ws hn hl x < 4 := by
    obtain ⟨y, hy, hm⟩ := List.mem_flatMap.1 hm
    have hk := may_links h y hy
    simp only [List.mem_cons, List.not_mem_nil, or_false, Prod.mk.injEq] at hm
    rcases hm with ⟨_, e⟩ | ⟨_, e⟩ <;> omega
  obtain ⟨m, hm4⟩ := Int.eq_ofNat_of_zero_le hl4.1
  rw [rchildren, List.mem_map]
  refine ⟨m, ?_, hm4.symm⟩
  rw [List.mem_filter]
  refine ⟨by simp; omega, ?_⟩
  unfold childB
  rw [hm4] at d2
  rw [d2]
  simp only [Bool.and_eq_true, bne_iff_ne, ne_eq, portEq, decide_eq_true_eq]
  rw [hup]
  simp only
  rw [hup]
  exact ⟨hx, rfl, rfl⟩
theorem rchildren_nodup (ws : List Wire) (hn hl n : Int) : (rchildren ws hn hl n 4).Nodup := by
  rw [rchildren, List.Nodup, List.pairwise_map]
  refine List.Pairwise.imp ?_ (List.Pairwise.filter _ List.nodup_range)
  intro a b hab e
  exact hab (by omega)
theorem mem_rchildren {ws : List Wire} {hn hl n k : Int} (h : k ∈ rchildren ws hn hl n 4) : ∃ m : Nat, k = m ∧ m < 4 ∧ childB ws hn hl n m = true := by
  rw [rchildren, List.mem_map] at h
  obtain ⟨m, hm, rfl⟩ := h
  rw [List.mem_filter] at hm
  exact ⟨m, rfl, by simpa using hm.1, hm.2⟩

/-- How often a node has been met as a child: behind n nodes, and these links of node n. -/
def cntOf (ws : List Wire) (hn hl : Int) (n : Int) (L : List Int) (x : Int) : Int := if x ≠ hn ∧ (parentOf ws hn hl x < n ∨ (parentOf ws hn hl x = n ∧ dOf ws hn hl x ∈ L)) then 1 else 0
def parr (M : Nat) (ws : List Wire) (hn hl : Int) (n : Int) (L : List Int) : List Int := (List.range M).map fun i : Nat => cntOf ws hn hl n L (i : Int)
theorem parr_len (M : Nat) (ws : List Wire) (hn hl : Int) (n : Int) (L : List Int) : (parr M ws hn hl n L).length = M := by simp [parr]
theorem parr_get {M : Nat} {ws : List Wire} {hn hl : Int} {n : Int} {L : List Int} {i : Nat} (h : i < M) : (parr M ws hn hl n L)[i]? = some (cntOf ws hn hl n L (i : Int)) := by
  rw [parr, List.getElem?_map, List.getElem?_range h]; rfl
theorem parent_range {N hn hl x : Int} {ws : List Wire} (h : mayB N ws hn hl = true) : 0 ≤ parentOf ws hn hl x ∧ parentOf ws hn hl x < N := parent_ok (mayB_net h)
theorem parr_zero {M : Nat} {hn hl : Int} {ws : List Wire} (h : mayB M ws hn hl = true) : parr M ws hn hl 0 [] = List.replicate M 0 := by
  refine List.ext_getElem? fun i => ?_
  rcases Nat.lt_or_ge i M with hi | hi
  · rw [parr_get hi, List.getElem?_replicate, if_pos hi, cntOf, if_neg]
    rintro ⟨_, h1 | ⟨_, h1⟩⟩
    · have := parent_range (x := (i : Int)) h; omega
    · cases h1
  · rw [List.getElem?_eq_none (by rw [parr_len]; exact hi), List.getElem?_eq_none (by simpa using hi)]
theorem parr_next {M : Nat} {hn hl : Int} {ws : List Wire} {n : Nat} (h : mayB M ws hn hl = true) : parr M ws hn hl n (rchildren ws hn hl n 4) = parr M ws hn hl ((n + 1 : Nat) : Int) [] := by
  refine List.ext_getElem? fun i => ?_
  rcases Nat.lt_or_ge i M with hi | hi
  · rw [parr_get hi, parr_get hi]
    congr 1
    unfold cntOf
    by_cases hx : (i : Int) = hn
    · simp [hx]
    · by_cases hp : parentOf ws hn hl (i : Int) = (n : Int)
      · have hc := child_mk (x := (i : Int)) h (by omega) (by omega) hx
        rw [hp] at hc
        rw [if_pos ⟨hx, .inr ⟨hp, hc⟩⟩, if_pos ⟨hx, .inl (by omega)⟩]
      · by_cases hlt : parentOf ws hn hl (i : Int) < (n : Int)
        · rw [if_pos ⟨hx, .inl hlt⟩, if_pos ⟨hx, .inl (by omega)⟩]
        · rw [if_neg, if_neg]
          · rintro ⟨_, h1 | ⟨_, h1⟩⟩
            · omega
            · cases h1
          · rintro ⟨_, h1 | ⟨h1, _⟩⟩
            · omega
            · exact hp h1
  · rw [List.getElem?_eq_none (by rw [parr_len]; exact hi), List.getElem?_eq_none (by rw [parr_len]; exact hi)]
theorem parr_step {M : Nat} {hn hl : Int} {ws : List Wire} {n : Int} (h : mayB M ws hn hl = true) {j : Nat} {k : Int} (hj : (rchildren ws hn hl n 4)[j]? = some k) :
    ∃ x : Nat, x < M ∧ (x : Int) ≠ hn ∧ peerL ws n k = some ((x : Int), (upOf ws hn hl x).2) ∧ (parr M ws hn hl n ((rchildren ws hn hl n 4).take j))[x]? = some 0 ∧
      (parr M ws hn hl n ((rchildren ws hn hl n 4).take j)).set x 1 = parr M ws hn hl n ((rchildren ws hn hl n 4).take (j + 1)) := by
  obtain ⟨m, rfl, hm4, hc⟩ := mem_rchildren (List.mem_of_getElem? hj)
  obtain ⟨x, h0, h1, hx, hpx, hdx, hpe⟩ := child_of h hc
  obtain ⟨y, rfl⟩ := Int.eq_ofNat_of_zero_le h0
  have hyM : y < M := by omega
  have hnd := rchildren_nodup ws hn hl n
  obtain ⟨L, hL⟩ : ∃ L, rchildren ws hn hl n 4 = L := ⟨_, rfl⟩
  rw [hL] at hj hnd ⊢
  have e : L.take (j + 1) = L.take j ++ [(m : Int)] := by rw [List.take_add_one, hj]; rfl
  have hnot : (m : Int) ∉ L.take j := by
    intro hm
    have hd2 := (List.nodup_append.1 (by rw [← e]; exact (List.take_sublist _ _).nodup hnd : (L.take j ++ [(m : Int)]).Nodup)).2.2
    exact hd2 _ hm _ (by simp) rfl
  refine ⟨y, hyM, hx, hpe, ?_, ?_⟩
  · rw [parr_get hyM, cntOf, if_neg]
    rintro ⟨_, h2 | ⟨_, h2⟩⟩
    · omega
    · rw [hdx] at h2; exact hnot h2
  · refine List.ext_getElem? fun i => ?_
    rcases Nat.lt_or_ge i M with hi | hi
    · by_cases hiy : y = i
      · subst hiy
        rw [List.getElem?_set_self (by rw [parr_len]; exact hi), parr_get hi, cntOf, if_pos]
        exact ⟨hx, .inr ⟨hpx, by rw [hdx, e]; simp⟩⟩
      · rw [List.getElem?_set_ne hiy, parr_get hi, parr_get hi]
        congr 1
        unfold cntOf
        by_cases hih : (i : Int) = hn
        · simp [hih]
        · have hne : parentOf ws hn hl (i : Int) = n → dOf ws hn hl (i : Int) ≠ (m : Int) := fun hp hd => by
            obtain ⟨d1, d2⟩ := down_of (x := (i : Int)) h (by omega) (by omega) hih
            rw [hp, hd, hpe] at d2
            injection d2 with d2
            have hup := up_tints h (i : Int) (by omega) (by omega)
            rw [hup] at d2
            injection d2 with d2
            omega
          have : (dOf ws hn hl (i : Int) ∈ L.take (j + 1)) ↔ (dOf ws hn hl (i : Int) ∈ L.take j ∨ dOf ws hn hl (i : Int) = (m : Int)) := by rw [e]; simp
          by_cases hp : parentOf ws hn hl (i : Int) = n
          · have hm := hne hp
            have e2 : (dOf ws hn hl (i : Int) ∈ L.take (j + 1)) ↔ dOf ws hn hl (i : Int) ∈ L.take j := ⟨fun hh => (this.1 hh).resolve_right hm, fun hh => this.2 (.inl hh)⟩
            simp only [e2]
          · simp [hp]
    · rw [List.getElem?_eq_none (by rw [List.length_set, parr_len]; exact hi), List.getElem?_eq_none (by rw [parr_len]; exact hi)]
theorem parr_end {M : Nat} {hn hl : Int} {ws : List Wire} (h : mayB M ws hn hl = true) {i : Nat} (hi : i < M) : (parr M ws hn hl (M : Nat) [])[i]? = some (if (i : Int) = hn then 0 else 1) := by
  rw [parr_get hi, cntOf]
  congr 1
  by_cases hx : (i : Int) = hn
  · simp [hx]
  · have := parent_range (x := (i : Int)) h
    rw [if_pos ⟨hx, .inl this.2⟩, if_neg hx]

/-- The lengths of the ways up of the first n nodes. -/
def fdep (ws : List Wire) (hn hl x : Int) : Int := (depL ws hn hl x : Int) - 1
def farr (M : Nat) (ws : List Wire) (hn hl : Int) (n : Nat) : List Int := (List.range M).map fun i : Nat => if i < n then fdep ws hn hl (i : Int) else 0
theorem farr_len (M : Nat) (ws : List Wire) (hn hl : Int) (n : Nat) : (farr M ws hn hl n).length = M := by simp [farr]
theorem farr_get {M : Nat} {ws : List Wire} {hn hl : Int} {n i : Nat} (h : i < M) : (farr M ws hn hl n)[i]? = some (if i < n then fdep ws hn hl (i : Int) else 0) := by
  rw [farr, List.getElem?_map, List.getElem?_range h]; rfl
theorem farr_zero (M : Nat) (ws : List Wire) (hn hl : Int) : farr M ws hn hl 0 = List.replicate M 0 := by
  refine List.ext_getElem? fun i => ?_
  rcases Nat.lt_or_ge i M with hi | hi
  · rw [farr_get hi, List.getElem?_replicate, if_pos hi, if_neg (by omega)]
  · rw [List.getElem?_eq_none (by rw [farr_len]; exact hi), List.getElem?_eq_none (by simpa using hi)]
theorem farr_step (M : Nat) (ws : List Wire) (hn hl : Int) {n : Nat} (hn' : n < M) : (farr M ws hn hl n).set n (fdep ws hn hl n) = farr M ws hn hl (n + 1) := by
  refine List.ext_getElem? fun i => ?_
  rcases Nat.lt_or_ge i M with hi | hi
  · by_cases hin : n = i
    · subst hin
      rw [List.getElem?_set_self (by rw [farr_len]; exact hi), farr_get hi, if_pos (by omega)]
    · rw [List.getElem?_set_ne hin, farr_get hi, farr_get hi]
      congr 1
      by_cases h : i < n
      · rw [if_pos h, if_pos (by omega)]
      · rw [if_neg h, if_neg (by omega)]
  · rw [List.getElem?_eq_none (by rw [List.length_set, farr_len]; exact hi), List.getElem?_eq_none (by rw [farr_len]; exact hi)]
theorem near_wire {N hn hl : Int} {ws : List Wire} (h : mayB N ws hn hl = true) {x : Wire} (hx : x ∈ ws) : -1 ≤ fdep ws hn hl x.a - fdep ws hn hl x.c ∧ fdep ws hn hl x.a - fdep ws hn hl x.c ≤ 1 := by
  obtain ⟨⟨a1, a2, a3, a4⟩, c1, c2, c3, c4⟩ := may_links h x hx
  have hw := peerL_wire (may_nodup h) hx
  have hs := peerL_sym (may_nodup h) hw
  obtain ⟨m, hm⟩ := Int.eq_ofNat_of_zero_le a3
  obtain ⟨m', hm'⟩ := Int.eq_ofNat_of_zero_le c3
  rw [hm] at hw
  rw [hm'] at hs
  have e1 := dep_wire h ⟨a1, a2⟩ (by omega) hw
  have e2 := dep_wire h ⟨c1, c2⟩ (by omega) hs
  unfold fdep
  omega
end Go.Proofs.Ytadpenphiagdmaa
