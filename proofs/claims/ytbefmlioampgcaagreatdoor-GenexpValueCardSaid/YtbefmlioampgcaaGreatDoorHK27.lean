/- Texts that belong together, joined: what each one holds is told ahead of it. -/
import Derived.Test.YtbefmlioampgcaaGreatDoorHK10
import Derived.Test.YtbefmlioampgcaaGreatDoorHK26
set_option linter.unusedVariables false
set_option linter.unusedSimpArgs false
/- Where a variable lies: the document's Var, walked. -/
namespace Go.Proofs.YtbefmlioampgcaaGreatDoor
open Go.RowKit
set_option linter.unusedVariables false
set_option linter.unusedSimpArgs false

set_option maxRecDepth 100000 in
set_option maxHeartbeats 4000000 in
theorem rWord24 (s : SpL) (frame i : Int) (A1 : Option Addr) (p1 : Nat) (at_ : List Int) (A2 : Option Addr) (p2 : Nat) (in_ : List Int) (B : Nat) (w : World) (hi : s.In w B) (h1 : intsIn w B A1 at_) (h2 : intsIn w B A2 in_) (hB : B ≤ w.heap.size) (hf : i64ok frame) (hi64 : i64ok i) :
    Calls Tryz.prog 54 #[.agg s.cells, .int .i64 frame, .int .i64 i, .slice A1 at_.length p1, .slice A2 in_.length p2] w (RetV (spotV (searchL s.fr frame i at_ in_)) w) := by
  obtain ⟨W0, hW0⟩ : ∃ W, w.alloc (.cells s.cells 32) = W := ⟨_, rfl⟩
  have K0 : Hid (Below w.heap.size w W0) := Lib.hid (by rw [← hW0]; exact (Below.refl _ _).alloc (Nat.le_refl _) _)
  have b0 : Blk W0 w.heap.size 32 s.cells := by rw [← hW0]; exact Blk.new _ _ _
  have HI : Hid (s.In W0 B) := Lib.hid (hi.below (K0.out.mono hB))
  have H1 : Hid (intsIn W0 B A1 at_) := Lib.hid (h1.below (K0.out.mono hB))
  have H2 : Hid (intsIn W0 B A2 in_) := Lib.hid (h2.below (K0.out.mono hB))
  have HBL : Hid (B ≤ w.heap.size) := Lib.hid hB
  have HQ : Hid (searchL s.fr frame i at_ in_ = if frame < 0 ∨ (s.fr.length : Int) ≤ frame ∨ i < 0 ∨ (at_.length : Int) ≤ i ∨ (in_.length : Int) ≤ i then none
    else upF s.fr (in_.getD i.toNat 0) (frame.toNat + 1) frame.toNat (at_.getD i.toNat 0)) := Lib.hid rfl
  generalize searchL s.fr frame i at_ in_ = R at *
  simp only [SpL.cells] at b0 hW0 ⊢
  have l0 := hi.1.1
  have l1 := h1.1
  have l2 := h2.1
  unfold lenOk at l0 l1 l2
  obtain ⟨nf, hnf⟩ : ∃ n, s.fr.length = n := ⟨_, rfl⟩
  obtain ⟨n1, hn1⟩ : ∃ n, at_.length = n := ⟨_, rfl⟩
  obtain ⟨n2, hn2⟩ : ∃ n, in_.length = n := ⟨_, rfl⟩
  have HN := Lib.hid hnf
  have HN1 := Lib.hid hn1
  have HN2 := Lib.hid hn2
  rw [hnf] at b0 hW0 l0 HQ ⊢
  rw [hn1] at l1 HQ ⊢
  rw [hn2] at l2 HQ ⊢
  have c0 := b0.cell 0
  have c1 := b0.cell 1
  have c2 := b0.cell 2
  have c3 := b0.cell 3
  have c4 := b0.cell 4
  simp at c0 c1 c2 c3 c4
  have hwl := b0.lt
  clear b0 hi h1 h2 hB hnf hn1 hn2 hf hi64
  go_enter Tryz.func54, Tryz.ntmps54
  by_cases q1 : frame < 0
  · obtain rfl : R = none := by rw [HQ.out, if_pos (.inl q1)]
    go_wp2
    go_ret2
    exact ⟨rfl, K0.out⟩
  by_cases q2 : (nf : Int) ≤ frame
  · obtain rfl : R = none := by rw [HQ.out, if_pos (.inr (.inl q2))]
    go_wp2
    go_ret2
    exact ⟨rfl, K0.out⟩
  by_cases q3 : i < 0
  · obtain rfl : R = none := by rw [HQ.out, if_pos (.inr (.inr (.inl q3)))]
    go_wp2
    go_ret2
    exact ⟨rfl, K0.out⟩
  by_cases q4 : (n1 : Int) ≤ i
  · obtain rfl : R = none := by rw [HQ.out, if_pos (by omega)]
    go_wp2
    go_ret2
    exact ⟨rfl, K0.out⟩
  by_cases q5 : (n2 : Int) ≤ i
  · obtain rfl : R = none := by rw [HQ.out, if_pos (by omega)]
    go_wp2
    go_ret2
    exact ⟨rfl, K0.out⟩
  obtain ⟨k, rfl⟩ : ∃ k : Nat, i = k := ⟨i.toNat, by omega⟩
  obtain ⟨f, rfl⟩ : ∃ k : Nat, frame = k := ⟨frame.toNat, by omega⟩
  have hk1 : k < at_.length := by have := HN1.out; omega
  have hk2 : k < in_.length := by have := HN2.out; omega
  obtain ⟨ba, oa, va, rfl, hba, hva, -, ca⟩ := ints_at H1.out hk1
  obtain ⟨bi, oi, vi, rfl, hbi, hvi, -, ci⟩ := ints_at H2.out hk2
  have HR : Hid (upF s.fr vi (f + 1) f va = R) := Lib.hid (by
    rw [HQ.out, if_neg (by omega)]
    simp only [Int.toNat_natCast, List.getD_eq_getElem?_getD, hva, hvi, Option.getD_some])
  clear HQ
  have hk1I : (k : Int) < n1 := by omega
  have hk2I : (k : Int) < n2 := by omega
  have hfI : (f : Int) < nf := by omega
  clear q3 q4 q5 q1 q2
  go_wp2
  go_loopw [12, 13] (fun a b wr => ∃ (g : Nat) (nn : Int), a = .int .i64 nn ∧ b = .int .i64 g ∧ g < nf ∧ Hid (upF s.fr vi (g + 1) g nn = R) ∧ Hid (Below W0.heap.size W0 wr)) (fun _ b _ => (intOf b).toNat)
  case atStart => exact ⟨f, va, rfl, rfl, by omega, HR, Lib.hid (Below.refl _ _)⟩
  case round =>
    clear HR
    obtain ⟨g, nn, rfl, rfl, hg, HU, HB⟩ := hrel
    have hgI : (g : Int) < nf := by omega
    have hw0 := (bcell HB.out).1
    have ci' := (hw0 bi (oi + k) (Nat.lt_of_lt_of_le hbi (Nat.le_trans HBL.out K0.out.size))).trans ci
    have c0' := (hw0 w.heap.size 0 hwl).trans c0
    obtain ⟨bf, of, x, hAf, hbf, hx, hxo, f0, f1, f2, f3, f4⟩ := fr_at (HI.out.below (HB.out.mono (Nat.le_trans HBL.out K0.out.size))) (k := g) (by rw [HN.out]; exact hg)
    rw [hAf] at c0'
    have HBS := Lib.hid (K0.out.trans (HB.out.mono K0.out.size))
    have HX := Lib.hid hx
    have z1 : bf < wr.heap.size := by have := HB.out.size; have := K0.out.size; have := HBL.out; omega
    have z2 : bi < wr.heap.size := by have := HB.out.size; have := K0.out.size; have := HBL.out; omega
    have z3 : w.heap.size < wr.heap.size := by have := HB.out.size; omega
    clear hw0 ci c0 hAf hx
    by_cases he : (g : Int) = vi
    · have HE := Lib.hid (upF_hit (fr := s.fr) (n := nn) he)
      obtain rfl : R = some nn := HU.out.symm.trans HE.out
      have he2 : ((g : Int) != vi) = false := by simpa using he
      clear he
      go_wp2
      go_ret2
      exact ⟨rfl, HBS.out⟩
    · have he2 : ((g : Int) != vi) = true := by simpa using he
      by_cases hp : x.parent < 0 ∨ (g : Int) ≤ x.parent
      · have HE := Lib.hid (upF_out (n := nn) he HX.out hp)
        obtain rfl : R = none := HU.out.symm.trans HE.out
        rcases hp with hp | hp
        all_goals
          go_wp2
          all_goals
            go_ret2
            exact ⟨rfl, HBS.out⟩
      · have HE := Lib.hid (upF_on (n := nn) he HX.out hp)
        have hp1 : ¬ x.parent < 0 := by omega
        have hp2 : ¬ (g : Int) ≤ x.parent := by omega
        obtain ⟨pp, hpp⟩ : ∃ p : Nat, x.parent = p := ⟨x.parent.toNat, by omega⟩
        have HPP := Lib.hid hpp
        rw [hpp] at f0 hp1 hp2
        clear he hp hpp
        have HU2 : Hid (upF s.fr vi (pp + 1) pp (wrap64 (nn + x.down)) = R) := Lib.hid (by
          have h1 := HE.out
          rw [HPP.out, Int.toNat_natCast] at h1
          exact h1.symm.trans HU.out)
        go_wp2
        go_roundw
        case rel => exact ⟨pp, _, rfl, rfl, by omega, HU2, HB⟩
        case measure => simp [intOf]; omega
set_option maxRecDepth 100000 in
set_option maxHeartbeats 4000000 in
theorem rVar24 (s : SpL) (frame v : Int) (B : Nat) (w : World) (hi : s.In w B) (hB : B ≤ w.heap.size) (hf : i64ok frame) (hv : i64ok v) :
    Calls Tryz.prog 32 #[.agg s.cells, .int .i64 frame, .int .i64 v] w (RetV (spotV (varL s frame v)) w) := by
  obtain ⟨W0, hW0⟩ : ∃ W, w.alloc (.cells s.cells 32) = W := ⟨_, rfl⟩
  have K0 : Hid (Below w.heap.size w W0) := Lib.hid (by rw [← hW0]; exact (Below.refl _ _).alloc (Nat.le_refl _) _)
  have b0 : Blk W0 w.heap.size 32 s.cells := by rw [← hW0]; exact Blk.new _ _ _
  have hi0 := hi.below (K0.out.mono hB)
  have HC := Lib.hid (rWord24 s frame v s.A1 s.c1 s.vat s.A2 s.c2 s.vin B W0 hi0 hi0.2.1 hi0.2.2.1 (Nat.le_trans hB K0.out.size) hf hv)
  have HQ : Hid (varL s frame v = searchL s.fr frame v s.vat s.vin) := Lib.hid rfl
  generalize varL s frame v = R at *
  generalize searchL s.fr frame v s.vat s.vin = R2 at *
  obtain rfl := HQ.out
  simp only [SpL.cells] at b0 hW0 HC ⊢
  unfold spotV at HC ⊢
  have c0 := b0.cell 0
  have c1 := b0.cell 1
  have c2 := b0.cell 2
  have c3 := b0.cell 3
  have c4 := b0.cell 4
  simp at c0 c1 c2 c3 c4
  have hwl := b0.lt
  clear b0 hi hB hf hv hi0 HQ
  go_enter Tryz.func32, Tryz.ntmps32
  go_wp2_with first
    | (go_at_call 54; (with_reducible refine HC.out.mono ?_); rintro e w1 ⟨rfl, hb1⟩)
  go_ret2
  exact ⟨rfl, K0.out.trans (hb1.mono K0.out.size)⟩
end Go.Proofs.YtbefmlioampgcaaGreatDoor

/- The document's dims, walked. -/
namespace Go.Proofs.YtbefmlioampgcaaGreatDoor
open Go.RowKit
set_option linter.unusedVariables false
set_option linter.unusedSimpArgs false

def VarsIn (g : EmL) (w : World) (B : Nat) : Prop := lenOk g.vars ∧ Reads w B 2 g.Av g.vars.length (varsC g.vars) ∧ ∀ x ∈ g.vars, x.kind ≤ 255 ∧ i64ok x.dim
theorem VarsIn.below {g : EmL} {w w' : World} {B : Nat} (h : VarsIn g w B) (hb : Below B w w') : VarsIn g w' B := ⟨h.1, h.2.1.below hb, h.2.2⟩
theorem var_at0 {g : EmL} {w : World} {B : Nat} (h : VarsIn g w B) {k : Nat} (hk : k < g.vars.length) :
    ∃ b off x, g.Av = some ⟨b, off, none⟩ ∧ b < B ∧ g.vars[k]? = some x ∧ i64ok x.dim ∧ x.kind ≤ 255 ∧ w.cell? ⟨b, off + k * 2, none⟩ = some (.int .u8 x.kind) ∧ w.cell? ⟨b, off + k * 2 + 1, none⟩ = some (.int .i64 x.dim) := by
  obtain ⟨b, off, x, h1, h2, h3, h4, hc⟩ := row_at (f := fun x => KVar.cells x |>.toList) (size := 2) (fun _ => rfl) (by decide) h.2.1 hk
  exact ⟨b, off, x, h1, h2, h3, (h.2.2 x h4).2, (h.2.2 x h4).1, hc 0 _ rfl, hc 1 _ rfl⟩
theorem fields_v {e : KE} (hf : fieldsB e = true) (hk : e.kind = 2 ∨ e.kind = 3) : 0 ≤ e.v ∧ e.v < 256 := by
  unfold fieldsB at hf
  rcases hk with hk | hk
  all_goals
    rw [hk] at hf
    have := of_decide_eq_true hf
    omega
/-- What dims finds of the part itself. -/
theorem dims_cases (g : EmL) (e : KE) (hf : fieldsB e = true) {w : World} {B : Nat} (hv : VarsIn g w B) :
    (dimsB g e = true ∧ ((∃ b off k, e.kind = 2 ∧ e.v = (k : Nat) ∧ k < g.vars.length ∧ g.Av = some ⟨b, off, none⟩ ∧ b < B ∧ w.cell? ⟨b, off + k * 2 + 1, none⟩ = some (.int .i64 0)) ∨
      (∃ b off k D, e.kind = 3 ∧ e.v = (k : Nat) ∧ k < g.vars.length ∧ g.Av = some ⟨b, off, none⟩ ∧ b < B ∧ w.cell? ⟨b, off + k * 2 + 1, none⟩ = some (.int .i64 D) ∧ (D == 0) = false ∧ i64ok D) ∨
      ((e.kind == 2) = false ∧ (e.kind == 3) = false))) ∨
    (dimsB g e = false ∧ ((∃ k, (e.kind = 2 ∨ e.kind = 3) ∧ e.v = (k : Nat) ∧ g.vars.length ≤ k) ∨
      (∃ b off k, e.kind = 3 ∧ e.v = (k : Nat) ∧ k < g.vars.length ∧ g.Av = some ⟨b, off, none⟩ ∧ b < B ∧ w.cell? ⟨b, off + k * 2 + 1, none⟩ = some (.int .i64 0)) ∨
      (∃ b off k D, e.kind = 2 ∧ e.v = (k : Nat) ∧ k < g.vars.length ∧ g.Av = some ⟨b, off, none⟩ ∧ b < B ∧ w.cell? ⟨b, off + k * 2 + 1, none⟩ = some (.int .i64 D) ∧ (D != 0) = true ∧ i64ok D))) := by
  by_cases hk : e.kind = 2 ∨ e.kind = 3
  · have hvr := fields_v hf hk
    obtain ⟨k, hvk⟩ : ∃ n : Nat, e.v = n := ⟨e.v.toNat, by omega⟩
    by_cases hlt : k < g.vars.length
    · obtain ⟨b, off, x, hA, hb, hx, hd, -, -, hc⟩ := var_at0 hv hlt
      have hgd : (g.vars.getD e.v.toNat ⟨0, 0⟩).dim = x.dim := by rw [hvk, Int.toNat_natCast, List.getD_eq_getElem?_getD, hx]; rfl
      have hgl : e.v < g.vars.length := by omega
      by_cases h0 : x.dim = 0
      · rw [h0] at hc
        rcases hk with hk | hk
        · refine .inl ⟨?_, .inl ⟨b, off, k, hk, hvk, hlt, hA, hb, hc⟩⟩
          unfold dimsB; rw [hgd, if_pos hk]; exact decide_eq_true ⟨hgl, h0⟩
        · refine .inr ⟨?_, .inr (.inl ⟨b, off, k, hk, hvk, hlt, hA, hb, hc⟩)⟩
          unfold dimsB; rw [hgd, if_neg (by omega), if_pos hk]; exact decide_eq_false (by simp [h0])
      · rcases hk with hk | hk
        · refine .inr ⟨?_, .inr (.inr ⟨b, off, k, x.dim, hk, hvk, hlt, hA, hb, hc, by simpa using h0, hd⟩)⟩
          unfold dimsB; rw [hgd, if_pos hk]; exact decide_eq_false (by simp [h0])
        · refine .inl ⟨?_, .inr (.inl ⟨b, off, k, x.dim, hk, hvk, hlt, hA, hb, hc, by simpa using h0, hd⟩)⟩
          unfold dimsB; rw [hgd, if_neg (by omega), if_pos hk]; exact decide_eq_true ⟨hgl, h0⟩
    · refine .inr ⟨?_, .inl ⟨k, hk, hvk, by omega⟩⟩
      unfold dimsB
      rcases hk with hk | hk
      · rw [if_pos hk]; exact decide_eq_false (by omega)
      · rw [if_neg (by omega), if_pos hk]; exact decide_eq_false (by omega)
  · refine .inl ⟨?_, .inr (.inr ⟨by simp; omega, by simp; omega⟩)⟩
    unfold dimsB
    rw [if_neg (by omega), if_neg (by omega)]
set_option maxRecDepth 100000 in
set_option maxHeartbeats 8000000 in
theorem rDims (g : EmL) (e : KE) : e.all (fun x => fieldsB x = true) → ∀ (B : Nat) (w : World), e.In w B → VarsIn g w B → B ≤ w.heap.size →
    Calls Tryz.prog 31 #[.agg e.cells, .slice g.Av g.vars.length g.cv] w (RetV (.bool (allE (dimsB g) e)) w) := by
  induction e using KE.ind with
  | h e ih =>
    intro hall B w hi hn hB
    obtain ⟨hfe, hfl⟩ := KE.all_iff.1 hall
    obtain ⟨W0, hW0⟩ : ∃ W, w.alloc (.cells e.cells 27) = W := ⟨_, rfl⟩
    have K0 : Below w.heap.size w W0 := by rw [← hW0]; exact (Below.refl _ _).alloc (Nat.le_refl _) _
    have b0 : Blk W0 w.heap.size 27 e.cells := by rw [← hW0]; exact Blk.new _ _ _
    have hi0 := hi.below (K0.mono hB)
    have hn0 := hn.below (K0.mono hB)
    have hBW : B ≤ W0.heap.size := Nat.le_trans hB K0.size
    have hRE := allE_eq (dimsB g) e
    obtain ⟨R, hR⟩ : ∃ R, allE (dimsB g) e = R := ⟨_, rfl⟩
    rw [hR] at hRE ⊢
    have HQ := Lib.hid hRE
    have HI := Lib.hid hi0
    have HIH : Hid (∀ x ∈ e.l, ∀ W, Below B W0 W → B ≤ W.heap.size → Calls Tryz.prog 31 #[.agg x.cells, .slice g.Av g.vars.length g.cv] W (RetV (.bool (allE (dimsB g) x)) W)) := Lib.hid fun x hx W hb hs =>
      ih x hx (hfl x hx) B W ((hi0.part hx).below hb) (hn0.below hb) hs
    have hcase := dims_cases g e hfe hn0
    have hlen : lenOk e.l := hi.one.1.2.2.2.2.2
    have hvl : lenOk g.vars := hn.1
    unfold lenOk at hlen hvl
    have HK0 := Lib.hid K0
    have HBW := Lib.hid hBW
    have HB0 := Lib.hid b0
    simp only [KE.cells] at b0 hW0 HB0 ⊢
    have c0 := b0.cell 0
    have c1 := b0.cell 1
    have c2 := b0.cell 2
    have c3 := b0.cell 3
    have c4 := b0.cell 4
    have c5 := b0.cell 5
    simp at c0 c1 c2 c3 c4 c5
    have hlt := b0.lt
    obtain ⟨K, hK⟩ : ∃ K : Int, (e.kind : Int) = K := ⟨_, rfl⟩
    rw [hK] at c0 hW0 HB0 ⊢
    obtain ⟨AV, hAV⟩ : ∃ a, g.Av = a := ⟨_, rfl⟩
    rw [hAV] at HIH hcase ⊢
    obtain ⟨ev, hev⟩ : ∃ a, e.v = a := ⟨_, rfl⟩
    rw [hev] at c4 hW0 HB0 hcase ⊢
    obtain ⟨nv, hnv⟩ : ∃ n, g.vars.length = n := ⟨_, rfl⟩
    rw [hnv] at HIH hcase hvl ⊢
    generalize g.cv = CV at *
    clear hi hn hB ih hall hfe hfl b0 hi0 hn0 hR hRE K0 hBW hAV hev hnv
    rcases hcase with ⟨hd, hcase⟩ | ⟨hd, hcase⟩
    · have HQ2 : Hid (R = allL (dimsB g) e.l) := Lib.hid (by rw [HQ.out, hd, Bool.true_and])
      clear hd HQ
      have hcase2 : (∃ b off k, K = 2 ∧ ev = (k : Nat) ∧ k < nv ∧ AV = some ⟨b, off, none⟩ ∧ b < B ∧ W0.cell? ⟨b, off + k * 2 + 1, none⟩ = some (.int .i64 0)) ∨
          (∃ b off k D, K = 3 ∧ ev = (k : Nat) ∧ k < nv ∧ AV = some ⟨b, off, none⟩ ∧ b < B ∧ W0.cell? ⟨b, off + k * 2 + 1, none⟩ = some (.int .i64 D) ∧ (D == 0) = false ∧ i64ok D) ∨ ((K == 2) = false ∧ (K == 3) = false) := by
        rcases hcase with ⟨b, off, k, h1, h2⟩ | ⟨b, off, k, D, h1, h2⟩ | ⟨h1, h2⟩
        · exact .inl ⟨b, off, k, by omega, h2⟩
        · exact .inr (.inl ⟨b, off, k, D, by omega, h2⟩)
        · refine .inr (.inr ⟨?_, ?_⟩)
          · simp at h1 ⊢; omega
          · simp at h2 ⊢; omega
      clear hcase hK
      rcases hcase2 with ⟨bv, ov, k0, rfl, rfl, hk0, rfl, hbv, v1⟩ | ⟨bv, ov, k0, D, rfl, rfl, hk0, rfl, hbv, v1, hD, hDo⟩ | ⟨hk2, hk3⟩
      all_goals
        try (have hbv0 : bv < W0.heap.size := Nat.lt_of_lt_of_le hbv HBW.out)
        try (have hk0I : (k0 : Int) < nv := by omega)
        try (have hk0J : ¬ (nv : Int) ≤ k0 := by omega)
        go_enter Tryz.func31, Tryz.ntmps31
        go_wp2
        go_loopw [5] (fun i wr => ∃ k : Nat, k ≤ e.l.length ∧ i = .int .i64 k ∧ Hid (allL (dimsB g) (e.l.take k) = true) ∧ Hid (Below W0.heap.size W0 wr)) (fun i _ => e.l.length - (intOf i).toNat)
        case atStart => exact ⟨0, Nat.zero_le _, rfl, Lib.hid (by rw [List.take_zero, allL]), Lib.hid (Below.refl _ _)⟩
        case round =>
          obtain ⟨k, hk, rfl, HT, HBR⟩ := hrel
          have hwr := HBR.out.size
          by_cases hltk : k < e.l.length
          · have hltI : (k : Int) < e.l.length := by omega
            have hbW : Below B W0 wr := HBR.out.mono HBW.out
            obtain ⟨b, off, x, hA, hb, hx, hin, r0, r1, r2, r3, r4, r5⟩ := kes_six (HI.out.parts.below hbW) hltk
            have a0 := (bcell HBR.out).1
            have g0 := (a0 _ 0 hlt).trans c0
            have g1 := (a0 _ 1 hlt).trans c1
            have g2 := (a0 _ 2 hlt).trans c2
            have g3 := (a0 _ 3 hlt).trans c3
            have g4 := (a0 _ 4 hlt).trans c4
            have g5 := (a0 _ 5 hlt).trans c5
            have zz : w.heap.size < wr.heap.size := by omega
            have zb : b < wr.heap.size := by have := HBW.out; omega
            have HC := Lib.hid (HIH.out x (List.mem_of_getElem? hx) wr hbW (by have := HBW.out; omega))
            have HX := Lib.hid hx
            obtain ⟨P, hP⟩ : ∃ P, allE (dimsB g) x = P := ⟨_, rfl⟩
            rw [hP] at HC
            have HP := Lib.hid hP
            simp only [KE.cells] at HC
            rw [hA] at g5
            clear hA hx hin a0 hbW hP
            have HZ := Lib.hid (Below.refl wr.heap.size wr)
            cases P
            · have HRN : Hid (R = false) := Lib.hid (HQ2.out.trans (allL_out _ HX.out HP.out))
              go_wp2_with first
                | (go_at_call 31; (with_reducible refine HC.out.mono ?_); rintro e3 w3 ⟨rfl, hb3⟩)
              go_ret
              exact ⟨by rw [HRN.out]; rfl, HK0.out.trans ((HBR.out.trans (hb3.mono hwr)).mono HK0.out.size)⟩
            · go_wp2_with first
                | (go_at_call 31; (with_reducible refine HC.out.mono ?_); rintro e3 w3 ⟨rfl, hb3⟩
                   have K3 := Lib.hid hb3
                   clear hb3)
              go_roundw
              case rel => exact ⟨k + 1, by omega, by go_num, Lib.hid (by rw [List.take_add_one, HX.out]; exact (allL_snoc _ _ _).trans (by rw [HT.out, HP.out]; rfl)), Lib.hid (HBR.out.trans (K3.out.mono hwr))⟩
              case measure => simp [intOf]; omega
          · have hltI : ¬ (k : Int) < e.l.length := by omega
            have a0 := (bcell HBR.out).1
            have g5 := (a0 _ 5 hlt).trans c5
            obtain rfl : k = e.l.length := by omega
            have HRT : Hid (R = true) := Lib.hid (by rw [HQ2.out, ← HT.out, List.take_of_length_le (Nat.le_refl _)])
            go_wp2
            go_ret
            exact ⟨by rw [HRT.out]; rfl, HK0.out.trans (HBR.out.mono HK0.out.size)⟩
    · obtain rfl : R = false := by rw [HQ.out, hd, Bool.false_and]
      clear hd HQ
      have hcase2 : (∃ k, (K = 2 ∨ K = 3) ∧ ev = (k : Nat) ∧ nv ≤ k) ∨
          (∃ b off k, K = 3 ∧ ev = (k : Nat) ∧ k < nv ∧ AV = some ⟨b, off, none⟩ ∧ b < B ∧ W0.cell? ⟨b, off + k * 2 + 1, none⟩ = some (.int .i64 0)) ∨
          (∃ b off k D, K = 2 ∧ ev = (k : Nat) ∧ k < nv ∧ AV = some ⟨b, off, none⟩ ∧ b < B ∧ W0.cell? ⟨b, off + k * 2 + 1, none⟩ = some (.int .i64 D) ∧ (D != 0) = true ∧ i64ok D) := by
        rcases hcase with ⟨k, h1, h2⟩ | ⟨b, off, k, h1, h2⟩ | ⟨b, off, k, D, h1, h2⟩
        · exact .inl ⟨k, by omega, h2⟩
        · exact .inr (.inl ⟨b, off, k, by omega, h2⟩)
        · exact .inr (.inr ⟨b, off, k, D, by omega, h2⟩)
      clear hcase hK
      rcases hcase2 with ⟨k0, rfl | rfl, rfl, hk0⟩ | ⟨bv, ov, k0, rfl, rfl, hk0, rfl, hbv, v1⟩ | ⟨bv, ov, k0, D, rfl, rfl, hk0, rfl, hbv, v1, hD, hDo⟩
      · have hk0I : (nv : Int) ≤ k0 := by omega
        go_enter Tryz.func31, Tryz.ntmps31
        go_wp2
        go_ret
        exact ⟨rfl, HK0.out⟩
      · have hk0I : (nv : Int) ≤ k0 := by omega
        go_enter Tryz.func31, Tryz.ntmps31
        go_wp2
        go_ret
        exact ⟨rfl, HK0.out⟩
      all_goals
        have hbv0 : bv < W0.heap.size := Nat.lt_of_lt_of_le hbv HBW.out
        have hk0I : (k0 : Int) < nv := by omega
        have hk0J : ¬ (nv : Int) ≤ k0 := by omega
        go_enter Tryz.func31, Tryz.ntmps31
        go_wp2
        go_ret
        exact ⟨rfl, HK0.out⟩
end Go.Proofs.YtbefmlioampgcaaGreatDoor

/- The document's Lies, walked. -/
namespace Go.Proofs.YtbefmlioampgcaaGreatDoor
open Go.RowKit
set_option linter.unusedVariables false
set_option linter.unusedSimpArgs false

/-- What Lies finds of the part itself. -/
theorem lies_cases (g : EmL) (e : KE) :
    (liesB g e = true ∧ (((e.kind = 2 ∨ e.kind = 3) ∧ ∃ a, varL g.s g.frame e.v = some a ∧ ¬ a < -2147483648 ∧ ¬ 2147483647 < a) ∨ ((e.kind == 2) = false ∧ (e.kind == 3) = false))) ∨
    (liesB g e = false ∧ (e.kind = 2 ∨ e.kind = 3) ∧ (varL g.s g.frame e.v = none ∨ (∃ a, varL g.s g.frame e.v = some a ∧ a < -2147483648) ∨ (∃ a, varL g.s g.frame e.v = some a ∧ ¬ a < -2147483648 ∧ 2147483647 < a))) := by
  by_cases hk : e.kind = 2 ∨ e.kind = 3
  · have hz : liesB g e = offB g e.v := by unfold liesB; rw [if_pos hk]
    have ho : offB g e.v = match varL g.s g.frame e.v with
      | none => false
      | some a => decide (wrap32 a = a) := rfl
    rw [hz]
    cases hv : varL g.s g.frame e.v with
    | none => rw [hv] at ho; exact .inr ⟨ho, hk, .inl rfl⟩
    | some a =>
      rw [hv] at ho
      simp only at ho
      by_cases h1 : a < -2147483648
      · exact .inr ⟨by rw [ho]; exact decide_eq_false (by unfold wrap32; omega), hk, .inr (.inl ⟨a, rfl, h1⟩)⟩
      · by_cases h2 : 2147483647 < a
        · exact .inr ⟨by rw [ho]; exact decide_eq_false (by unfold wrap32; omega), hk, .inr (.inr ⟨a, rfl, h1, h2⟩)⟩
        · exact .inl ⟨by rw [ho]; exact decide_eq_true (by unfold wrap32; omega), .inl ⟨hk, a, rfl, h1, h2⟩⟩
  · refine .inl ⟨?_, .inr ⟨by simp; omega, by simp; omega⟩⟩
    unfold liesB
    rw [if_neg hk]
set_option maxRecDepth 100000 in
set_option maxHeartbeats 8000000 in
theorem rLies (g : EmL) (hf64 : i64ok g.frame) (e : KE) : ∀ (B : Nat) (w : World), e.In w B → g.s.In w B → B ≤ w.heap.size →
    Calls Tryz.prog 12 #[.agg e.cells, .agg g.s.cells, .int .i64 g.frame] w (RetV (.bool (allE (liesB g) e)) w) := by
  induction e using KE.ind with
  | h e ih =>
    intro B w hi hn hB
    obtain ⟨W0, hW0⟩ : ∃ W, (w.alloc (.cells e.cells 27)).alloc (.cells g.s.cells 32) = W := ⟨_, rfl⟩
    have K0 : Below w.heap.size w W0 := by rw [← hW0]; exact below_2 w _ _
    have b0 : Blk W0 w.heap.size 27 e.cells := by rw [← hW0]; exact (Blk.new w _ _).alloc _
    have b1 : Blk W0 (w.heap.size + 1) 32 g.s.cells := by rw [← hW0]; exact blk_2 w _ _ _
    have hi0 := hi.below (K0.mono hB)
    have hn0 := hn.below (K0.mono hB)
    have hBW : B ≤ W0.heap.size := Nat.le_trans hB K0.size
    have hRE := allE_eq (liesB g) e
    obtain ⟨R, hR⟩ : ∃ R, allE (liesB g) e = R := ⟨_, rfl⟩
    rw [hR] at hRE ⊢
    have HQ := Lib.hid hRE
    have HI := Lib.hid hi0
    have HIH : Hid (∀ x ∈ e.l, ∀ W, Below B W0 W → B ≤ W.heap.size → Calls Tryz.prog 12 #[.agg x.cells, .agg g.s.cells, .int .i64 g.frame] W (RetV (.bool (allE (liesB g) x)) W)) := Lib.hid fun x hx W hb hs =>
      ih x hx B W ((hi0.part hx).below hb) (hn0.below hb) hs
    have HV : Hid (∀ W, Below B W0 W → B ≤ W.heap.size → Calls Tryz.prog 32 #[.agg g.s.cells, .int .i64 g.frame, .int .i64 e.v] W (RetV (spotV (varL g.s g.frame e.v)) W)) := Lib.hid fun W hb hs =>
      rVar24 g.s g.frame e.v B W (hn0.below hb) hs hf64 hi.one.1.2.2.2.2.1
    have hcase := lies_cases g e
    have hlen : lenOk e.l := hi.one.1.2.2.2.2.2
    unfold lenOk at hlen
    have HK0 := Lib.hid K0
    have HBW := Lib.hid hBW
    simp only [SpL.cells] at HIH HV b1 hW0 ⊢
    unfold spotV at HV
    simp only [KE.cells] at b0 hW0 ⊢
    have c0 := b0.cell 0
    have c1 := b0.cell 1
    have c2 := b0.cell 2
    have c3 := b0.cell 3
    have c4 := b0.cell 4
    have c5 := b0.cell 5
    simp at c0 c1 c2 c3 c4 c5
    have d0 := b1.cell 0
    have d1 := b1.cell 1
    have d2 := b1.cell 2
    have d3 := b1.cell 3
    have d4 := b1.cell 4
    simp at d0 d1 d2 d3 d4
    have hlt := b0.lt
    have hlt1 := b1.lt
    obtain ⟨K, hK⟩ : ∃ K : Int, (e.kind : Int) = K := ⟨_, rfl⟩
    rw [hK] at c0 hW0 ⊢
    obtain ⟨sp, hsp⟩ : ∃ a, varL g.s g.frame e.v = a := ⟨_, rfl⟩
    rw [hsp] at HV hcase
    have h64 := hi.one.1.2.2.2.2.1
    clear hi hn hB ih b0 b1 hi0 hn0 hR hRE K0 hBW hsp hf64
    rcases hcase with ⟨hd, hcase⟩ | ⟨hd, hk23, hcase⟩
    · have HQ2 : Hid (R = allL (liesB g) e.l) := Lib.hid (by rw [HQ.out, hd, Bool.true_and])
      clear hd HQ
      have hcase2 : (K = 2 ∧ ∃ a, sp = some a ∧ ¬ a < -2147483648 ∧ ¬ 2147483647 < a) ∨ (K = 3 ∧ ∃ a, sp = some a ∧ ¬ a < -2147483648 ∧ ¬ 2147483647 < a) ∨ ((K == 2) = false ∧ (K == 3) = false) := by
        rcases hcase with ⟨h1 | h1, h2⟩ | ⟨h1, h2⟩
        · exact .inl ⟨by omega, h2⟩
        · exact .inr (.inl ⟨by omega, h2⟩)
        · refine .inr (.inr ⟨?_, ?_⟩)
          · simp at h1 ⊢; omega
          · simp at h2 ⊢; omega
      clear hcase hK
      rcases hcase2 with ⟨rfl, a, rfl, ha1, ha2⟩ | ⟨rfl, a, rfl, ha1, ha2⟩ | ⟨hk2, hk3⟩
      all_goals
        try simp only [Option.getD_some, Option.isSome_some] at HV
        have KSS := Lib.hid (Below.refl W0.heap.size W0)
        go_enter Tryz.func12, Tryz.ntmps12
        go_wp2_with first
          | (go_at_call 32; (with_reducible refine (HV.out _ (Below.refl _ _) HBW.out).mono ?_); rintro e2 w2 ⟨rfl, hb2⟩
             have KS := Lib.hid hb2
             clear hb2)
        go_loopw [9] (fun i wr => ∃ k : Nat, k ≤ e.l.length ∧ i = .int .i64 k ∧ Hid (allL (liesB g) (e.l.take k) = true) ∧ Hid (Below W0.heap.size W0 wr)) (fun i _ => e.l.length - (intOf i).toNat)
        case atStart => exact ⟨0, Nat.zero_le _, rfl, Lib.hid (by rw [List.take_zero, allL]), by first | exact KS | exact KSS⟩
        case round =>
          obtain ⟨k, hk, rfl, HT, HBR⟩ := hrel
          have hwr := HBR.out.size
          by_cases hltk : k < e.l.length
          · have hltI : (k : Int) < e.l.length := by omega
            have hbW : Below B W0 wr := HBR.out.mono HBW.out
            obtain ⟨b, off, x, hA, hb, hx, hin, r0, r1, r2, r3, r4, r5⟩ := kes_six (HI.out.parts.below hbW) hltk
            obtain ⟨ι, F, i0', h0', hFb, hcl⟩ := fam_below wr
            haveI : Nonempty ι := ⟨i0'⟩
            have a0 := (bcell HBR.out).1
            have zz : w.heap.size < wr.heap.size := by omega
            have zy : w.heap.size + 1 < wr.heap.size := by omega
            have zb : b < wr.heap.size := by have := HBW.out; omega
            have g5 := (a0 _ 5 hlt).trans c5
            have D0 : ∀ i, (F i).cell? ⟨w.heap.size + 1, 0, none⟩ = _ := fun i => ((bcell (hFb i)).1 _ _ zy).trans ((a0 _ 0 hlt1).trans d0)
            have D1 : ∀ i, (F i).cell? ⟨w.heap.size + 1, 1, none⟩ = _ := fun i => ((bcell (hFb i)).1 _ _ zy).trans ((a0 _ 1 hlt1).trans d1)
            have D2 : ∀ i, (F i).cell? ⟨w.heap.size + 1, 2, none⟩ = _ := fun i => ((bcell (hFb i)).1 _ _ zy).trans ((a0 _ 2 hlt1).trans d2)
            have D3 : ∀ i, (F i).cell? ⟨w.heap.size + 1, 3, none⟩ = _ := fun i => ((bcell (hFb i)).1 _ _ zy).trans ((a0 _ 3 hlt1).trans d3)
            have D4 : ∀ i, (F i).cell? ⟨w.heap.size + 1, 4, none⟩ = _ := fun i => ((bcell (hFb i)).1 _ _ zy).trans ((a0 _ 4 hlt1).trans d4)
            rw [hA] at g5
            have G5 : ∀ i, (F i).cell? ⟨w.heap.size, 5, none⟩ = _ := fun i => ((bcell (hFb i)).1 _ _ zz).trans g5
            have R0 : ∀ i, (F i).cell? ⟨b, off + k * 6, none⟩ = _ := fun i => ((bcell (hFb i)).1 _ _ zb).trans r0
            have R1 : ∀ i, (F i).cell? ⟨b, off + k * 6 + 1, none⟩ = _ := fun i => ((bcell (hFb i)).1 _ _ zb).trans r1
            have R2 : ∀ i, (F i).cell? ⟨b, off + k * 6 + 2, none⟩ = _ := fun i => ((bcell (hFb i)).1 _ _ zb).trans r2
            have R3 : ∀ i, (F i).cell? ⟨b, off + k * 6 + 3, none⟩ = _ := fun i => ((bcell (hFb i)).1 _ _ zb).trans r3
            have R4 : ∀ i, (F i).cell? ⟨b, off + k * 6 + 4, none⟩ = _ := fun i => ((bcell (hFb i)).1 _ _ zb).trans r4
            have R5 : ∀ i, (F i).cell? ⟨b, off + k * 6 + 5, none⟩ = _ := fun i => ((bcell (hFb i)).1 _ _ zb).trans r5
            have HFB := Lib.hid hFb
            obtain ⟨P, hP⟩ : ∃ P, allE (liesB g) x = P := ⟨_, rfl⟩
            have HC : Hid (∀ i, Calls Tryz.prog 12 #[.agg x.cells, .agg #[.slice g.s.Af g.s.fr.length g.s.cf, .slice g.s.A1 g.s.vat.length g.s.c1, .slice g.s.A2 g.s.vin.length g.s.c2, .slice g.s.A3 g.s.cat.length g.s.c3, .slice g.s.A4 g.s.cin.length g.s.c4], .int .i64 g.frame] (F i) (RetV (.bool P) (F i))) := Lib.hid fun i => by
              rw [← hP]
              exact HIH.out x (List.mem_of_getElem? hx) (F i) (hbW.trans ((hFb i).mono (by have := HBW.out; omega))) (by have := (hFb i).size; have := HBW.out; omega)
            have HX := Lib.hid hx
            have HP := Lib.hid hP
            simp only [KE.cells] at HC
            clear hA hx hin a0 hbW hP hFb
            cases P
            · have HRN : Hid (R = false) := Lib.hid (HQ2.out.trans (allL_out _ HX.out HP.out))
              go_wp2
              refine wp_region_quiet_fam F i0' h0' (by kernel_rfl) (by kernel_rfl) ?_
              repeat (go_big_quiet_step (first | (go_at_call 12; (with_reducible refine (HC.out _).mono ?_); rintro e3 w3 ⟨rfl, hb3⟩; exact ⟨rfl, hcl _ _ hb3⟩)))
              refine wpQuiet_nil ?_
              intro i
              go_wp2
              go_ret
              exact ⟨by rw [HRN.out]; rfl, HK0.out.trans ((HBR.out.trans ((HFB.out i).mono hwr)).mono HK0.out.size)⟩
            · go_wp2
              refine wp_region_quiet_fam F i0' h0' (by kernel_rfl) (by kernel_rfl) ?_
              repeat (go_big_quiet_step (first | (go_at_call 12; (with_reducible refine (HC.out _).mono ?_); rintro e3 w3 ⟨rfl, hb3⟩; exact ⟨rfl, hcl _ _ hb3⟩)))
              refine wpQuiet_nil ?_
              intro i
              go_wp2
              go_roundw
              case rel => exact ⟨k + 1, by omega, by go_num, Lib.hid (by rw [List.take_add_one, HX.out]; exact (allL_snoc _ _ _).trans (by rw [HT.out, HP.out]; rfl)), Lib.hid (HBR.out.trans ((HFB.out i).mono hwr))⟩
              case measure => simp [intOf]; omega
          · have hltI : ¬ (k : Int) < e.l.length := by omega
            have a0 := (bcell HBR.out).1
            have g5 := (a0 _ 5 hlt).trans c5
            obtain rfl : k = e.l.length := by omega
            have HRT : Hid (R = true) := Lib.hid (by rw [HQ2.out, ← HT.out, List.take_of_length_le (Nat.le_refl _)])
            go_wp2
            go_ret
            exact ⟨by rw [HRT.out]; rfl, HK0.out.trans (HBR.out.mono HK0.out.size)⟩
    · obtain rfl : R = false := by rw [HQ.out, hd, Bool.false_and]
      have hk2 : K = 2 ∨ K = 3 := by omega
      clear hd HQ hK hk23
      rcases hcase with rfl | ⟨a, rfl, ha1⟩ | ⟨a, rfl, ha1, ha2⟩ <;> rcases hk2 with rfl | rfl
      all_goals
        simp only [Option.getD_some, Option.getD_none, Option.isSome_some, Option.isSome_none] at HV
        go_enter Tryz.func12, Tryz.ntmps12
        go_wp2_with first
          | (go_at_call 32; (with_reducible refine (HV.out _ (Below.refl _ _) HBW.out).mono ?_); rintro e2 w2 ⟨rfl, hb2⟩)
        go_ret
        exact ⟨rfl, HK0.out.trans (hb2.mono HK0.out.size)⟩
end Go.Proofs.YtbefmlioampgcaaGreatDoor
