/- Where a variable lies: space.Var, walked. -/
import Derived.Test.YtbefmlioampgcaaGreatDoorHK1
namespace Go.Proofs.YtbefmlioampgcaaGreatDoor
open Go.RowKit
set_option linter.unusedVariables false
set_option linter.unusedSimpArgs false

/-- A frame of a space. -/
structure FrL where
  parent : Int
  down : Int
  above : Int
  below : Int
  temp : Int
instance : Inhabited FrL := ⟨⟨0, 0, 0, 0, 0⟩⟩
def FrL.cells (x : FrL) : List Value := [.int .i64 x.parent, .int .i64 x.down, .int .i64 x.above, .int .i64 x.below, .int .i64 x.temp]
def FrL.Ok (x : FrL) : Prop := i64ok x.parent ∧ i64ok x.down ∧ i64ok x.above ∧ i64ok x.below ∧ i64ok x.temp
def frsC (l : List FrL) : List Value := l.flatMap FrL.cells
theorem FrL.cells_len (x : FrL) : x.cells.length = 5 := rfl
/-- A space, with where its lists lie. -/
structure SpL where
  Af : Option Addr
  cf : Nat
  fr : List FrL
  A1 : Option Addr
  c1 : Nat
  vat : List Int
  A2 : Option Addr
  c2 : Nat
  vin : List Int
  A3 : Option Addr
  c3 : Nat
  cat : List Int
  A4 : Option Addr
  c4 : Nat
  cin : List Int
def intsV (l : List Int) : List Value := l.map fun v => .int .i64 v
theorem intsV_get {m : List Int} {k : Nat} {v : Int} (h : m[k]? = some v) : (intsV m)[k]? = some (.int .i64 v) := by simp [intsV, h]
def SpL.cells (s : SpL) : Array Value := #[.slice s.Af s.fr.length s.cf, .slice s.A1 s.vat.length s.c1, .slice s.A2 s.vin.length s.c2, .slice s.A3 s.cat.length s.c3, .slice s.A4 s.cin.length s.c4]
def intsIn (w : World) (B : Nat) (A : Option Addr) (l : List Int) : Prop := lenOk l ∧ Reads w B 1 A l.length (intsV l) ∧ ∀ v ∈ l, i64ok v
def SpL.In (w : World) (B : Nat) (s : SpL) : Prop :=
  (lenOk s.fr ∧ Reads w B 5 s.Af s.fr.length (frsC s.fr) ∧ ∀ x ∈ s.fr, x.Ok) ∧ intsIn w B s.A1 s.vat ∧ intsIn w B s.A2 s.vin ∧ intsIn w B s.A3 s.cat ∧ intsIn w B s.A4 s.cin
theorem intsIn.below {w w' : World} {B : Nat} {A : Option Addr} {l : List Int} (h : intsIn w B A l) (hb : Below B w w') : intsIn w' B A l := ⟨h.1, h.2.1.below hb, h.2.2⟩
theorem SpL.In.below {w w' : World} {B : Nat} {s : SpL} (h : s.In w B) (hb : Below B w w') : s.In w' B :=
  ⟨⟨h.1.1, h.1.2.1.below hb, h.1.2.2⟩, h.2.1.below hb, h.2.2.1.below hb, h.2.2.2.1.below hb, h.2.2.2.2.below hb⟩
theorem ints_at {w : World} {B : Nat} {A : Option Addr} {l : List Int} (h : intsIn w B A l) {k : Nat} (hk : k < l.length) :
    ∃ b off v, A = some ⟨b, off, none⟩ ∧ b < B ∧ l[k]? = some v ∧ i64ok v ∧ w.cell? ⟨b, off + k, none⟩ = some (.int .i64 v) := by
  obtain ⟨b, off, rfl, hb, hc⟩ := h.2.1.addr (by omega) (by omega)
  have hv : l[k]? = some l[k] := List.getElem?_eq_getElem hk
  exact ⟨b, off, l[k], rfl, hb, hv, h.2.2 _ (List.getElem_mem hk), hc k _ (intsV_get hv)⟩
theorem fr_at {w : World} {B : Nat} {s : SpL} (h : s.In w B) {k : Nat} (hk : k < s.fr.length) :
    ∃ b off x, s.Af = some ⟨b, off, none⟩ ∧ b < B ∧ s.fr[k]? = some x ∧ x.Ok ∧ w.cell? ⟨b, off + k * 5, none⟩ = some (.int .i64 x.parent) ∧ w.cell? ⟨b, off + k * 5 + 1, none⟩ = some (.int .i64 x.down) ∧
      w.cell? ⟨b, off + k * 5 + 2, none⟩ = some (.int .i64 x.above) ∧ w.cell? ⟨b, off + k * 5 + 3, none⟩ = some (.int .i64 x.below) ∧ w.cell? ⟨b, off + k * 5 + 4, none⟩ = some (.int .i64 x.temp) := by
  obtain ⟨b, off, x, h1, h2, h3, h4, hc⟩ := row_at FrL.cells_len (by decide) h.1.2.1 hk
  exact ⟨b, off, x, h1, h2, h3, h.1.2.2 x h4, hc 0 _ rfl, hc 1 _ rfl, hc 2 _ rfl, hc 3 _ rfl, hc 4 _ rfl⟩
/-- Upwards from frame f, n words so far, to the frame t. -/
def upF (fr : List FrL) (t : Int) : Nat → Nat → Int → Option Int
  | 0, _, _ => none
  | q + 1, f, n => if (f : Int) = t then some n else match fr[f]? with
    | none => none
    | some x => if x.parent < 0 ∨ (f : Int) ≤ x.parent then none else upF fr t q x.parent.toNat (wrap64 (n + x.down))
/-- The word of entry i of the lists at and in, from a frame. -/
def searchL (fr : List FrL) (frame i : Int) (at_ in_ : List Int) : Option Int :=
  if frame < 0 ∨ (fr.length : Int) ≤ frame ∨ i < 0 ∨ (at_.length : Int) ≤ i ∨ (in_.length : Int) ≤ i then none
  else upF fr (in_.getD i.toNat 0) (frame.toNat + 1) frame.toNat (at_.getD i.toNat 0)
theorem upF_any (fr : List FrL) (t : Int) : ∀ (q q' f : Nat) (n : Int), f < q → f < q' → upF fr t q f n = upF fr t q' f n := by
  intro q
  induction q with
  | zero => intro q' f n h; omega
  | succ q ih =>
    intro q' f n h h'
    obtain ⟨p, rfl⟩ : ∃ p, q' = p + 1 := ⟨q' - 1, by omega⟩
    rw [upF, upF]
    by_cases h1 : (f : Int) = t
    · rw [if_pos h1, if_pos h1]
    · rw [if_neg h1, if_neg h1]
      cases hx : fr[f]? with
      | none => rfl
      | some x =>
        simp only
        by_cases h2 : x.parent < 0 ∨ (f : Int) ≤ x.parent
        · rw [if_pos h2, if_pos h2]
        · rw [if_neg h2, if_neg h2]
          exact ih p _ _ (by omega) (by omega)
theorem upF_hit {fr : List FrL} {t : Int} {f : Nat} {n : Int} (h : (f : Int) = t) : upF fr t (f + 1) f n = some n := by rw [upF, if_pos h]
theorem upF_out {fr : List FrL} {t : Int} {f : Nat} {n : Int} {x : FrL} (h : ¬ (f : Int) = t) (hx : fr[f]? = some x) (hp : x.parent < 0 ∨ (f : Int) ≤ x.parent) : upF fr t (f + 1) f n = none := by rw [upF, if_neg h, hx]; simp only; rw [if_pos hp]
theorem upF_on {fr : List FrL} {t : Int} {f : Nat} {n : Int} {x : FrL} (h : ¬ (f : Int) = t) (hx : fr[f]? = some x) (hp : ¬ (x.parent < 0 ∨ (f : Int) ≤ x.parent)) : upF fr t (f + 1) f n = upF fr t (x.parent.toNat + 1) x.parent.toNat (wrap64 (n + x.down)) := by
  rw [upF, if_neg h, hx]
  simp only
  rw [if_neg hp]
  exact upF_any fr t _ _ _ _ (by omega) (by omega)
def spotV (o : Option Int) : Value := .tuple #[.int .i64 (o.getD 0), .bool o.isSome]
set_option maxRecDepth 100000 in
set_option maxHeartbeats 4000000 in
theorem sSearch (s : SpL) (frame i : Int) (A1 : Option Addr) (p1 : Nat) (at_ : List Int) (A2 : Option Addr) (p2 : Nat) (in_ : List Int) (B : Nat) (w : World) (hi : s.In w B) (h1 : intsIn w B A1 at_) (h2 : intsIn w B A2 in_) (hB : B ≤ w.heap.size) (hf : i64ok frame) (hi64 : i64ok i) :
    Calls Tryz.prog 61 #[.agg s.cells, .int .i64 frame, .int .i64 i, .slice A1 at_.length p1, .slice A2 in_.length p2] w (RetV (spotV (searchL s.fr frame i at_ in_)) w) := by
  obtain ⟨W0, hW0⟩ : ∃ W, w.alloc (.cells s.cells 32) = W := ⟨_, rfl⟩
  have K0 : Hid (Below w.heap.size w W0) := Lib.hid (by rw [← hW0]; exact (Below.refl _ _).alloc (Nat.le_refl _) _)
  have b0 : Blk W0 w.heap.size 32 s.cells := by rw [← hW0]; exact Blk.new _ _ _
  have HI : Hid (s.In W0 B) := Lib.hid (hi.below (K0.out.mono hB))
  have H1 : Hid (intsIn W0 B A1 at_) := Lib.hid (h1.below (K0.out.mono hB))
  have H2 : Hid (intsIn W0 B A2 in_) := Lib.hid (h2.below (K0.out.mono hB))
  have HBL : Hid (B ≤ w.heap.size) := Lib.hid hB
  have HQ : Hid (searchL s.fr frame i at_ in_ = if frame < 0 ∨ (s.fr.length : Int) ≤ frame ∨ i < 0 ∨ (at_.length : Int) ≤ i ∨ (in_.length : Int) ≤ i then none
    else upF s.fr (in_.getD i.toNat 0) (frame.toNat + 1) frame.toNat (at_.getD i.toNat 0)) := Lib.hid rfl
  generalize searchL s.fr frame i at_ in_ = R at *
  simp only [SpL.cells] at b0 hW0 ⊢
  have l0 := hi.1.1
  have l1 := h1.1
  have l2 := h2.1
  unfold lenOk at l0 l1 l2
  obtain ⟨nf, hnf⟩ : ∃ n, s.fr.length = n := ⟨_, rfl⟩
  obtain ⟨n1, hn1⟩ : ∃ n, at_.length = n := ⟨_, rfl⟩
  obtain ⟨n2, hn2⟩ : ∃ n, in_.length = n := ⟨_, rfl⟩
  have HN := Lib.hid hnf
  have HN1 := Lib.hid hn1
  have HN2 := Lib.hid hn2
  rw [hnf] at b0 hW0 l0 HQ ⊢
  rw [hn1] at l1 HQ ⊢
  rw [hn2] at l2 HQ ⊢
  have c0 := b0.cell 0
  have c1 := b0.cell 1
  have c2 := b0.cell 2
  have c3 := b0.cell 3
  have c4 := b0.cell 4
  simp at c0 c1 c2 c3 c4
  have hwl := b0.lt
  clear b0 hi h1 h2 hB hnf hn1 hn2 hf hi64
  go_enter Tryz.func61, Tryz.ntmps61
  by_cases q1 : frame < 0
  · obtain rfl : R = none := by rw [HQ.out, if_pos (.inl q1)]
    go_wp2
    go_step3
    go_wp2
    rw [Exit.noGoto_ret]
    go_ret2
    exact ⟨rfl, K0.out⟩
  by_cases q2 : (nf : Int) ≤ frame
  · obtain rfl : R = none := by rw [HQ.out, if_pos (.inr (.inl q2))]
    go_wp2
    go_step3
    go_wp2
    rw [Exit.noGoto_ret]
    go_ret2
    exact ⟨rfl, K0.out⟩
  by_cases q3 : i < 0
  · obtain rfl : R = none := by rw [HQ.out, if_pos (.inr (.inr (.inl q3)))]
    go_wp2
    go_step3
    go_wp2
    rw [Exit.noGoto_ret]
    go_ret2
    exact ⟨rfl, K0.out⟩
  by_cases q4 : (n1 : Int) ≤ i ∨ (n2 : Int) ≤ i
  · obtain rfl : R = none := by rw [HQ.out, if_pos (by omega)]
    by_cases hm : n2 < n1 <;> rcases q4 with q4 | q4
    all_goals
      go_wp2
      go_step3
      go_wp2
      try rw [Exit.noGoto_ret]
      go_ret2
      exact ⟨rfl, K0.out⟩
  obtain ⟨k, rfl⟩ : ∃ k : Nat, i = k := ⟨i.toNat, by omega⟩
  obtain ⟨f, rfl⟩ : ∃ k : Nat, frame = k := ⟨frame.toNat, by omega⟩
  have hk1 : k < at_.length := by have := HN1.out; omega
  have hk2 : k < in_.length := by have := HN2.out; omega
  obtain ⟨ba, oa, va, rfl, hba, hva, -, ca⟩ := ints_at H1.out hk1
  obtain ⟨bi, oi, vi, rfl, hbi, hvi, -, ci⟩ := ints_at H2.out hk2
  have HR : Hid (upF s.fr vi (f + 1) f va = R) := Lib.hid (by
    rw [HQ.out, if_neg (by omega)]
    simp only [Int.toNat_natCast, List.getD_eq_getElem?_getD, hva, hvi, Option.getD_some])
  clear HQ
  have hk1I : (k : Int) < n1 := by omega
  have hk2I : (k : Int) < n2 := by omega
  have hfI : (f : Int) < nf := by omega
  clear q3 q4 q1 q2
  by_cases hm : n2 < n1
  all_goals
    go_wp2
    go_step3
    go_wp2
    go_step3
    go_wp2
    go_loopw [12, 13, 14] (fun a fd b wr => ∃ (g : Nat) (nn : Int), a = .int .i64 nn ∧ fd = .bool false ∧ b = .int .i64 g ∧ g < nf ∧ Hid (upF s.fr vi (g + 1) g nn = R) ∧ Hid (Below W0.heap.size W0 wr)) (fun _ _ b _ => (intOf b).toNat)
    case atStart => exact ⟨f, va, rfl, rfl, rfl, by omega, HR, Lib.hid (Below.refl _ _)⟩
    case round =>
      clear HR
      obtain ⟨g, nn, rfl, rfl, rfl, hg, HU, HB⟩ := hrel
      have hgI : (g : Int) < nf := by omega
      have hw0 := (bcell HB.out).1
      have ci' := (hw0 bi (oi + k) (Nat.lt_of_lt_of_le hbi (Nat.le_trans HBL.out K0.out.size))).trans ci
      have c0' := (hw0 w.heap.size 0 hwl).trans c0
      obtain ⟨bf, of, x, hAf, hbf, hx, hxo, f0, f1, f2, f3, f4⟩ := fr_at (HI.out.below (HB.out.mono (Nat.le_trans HBL.out K0.out.size))) (k := g) (by rw [HN.out]; exact hg)
      rw [hAf] at c0'
      have HBS := Lib.hid (K0.out.trans (HB.out.mono K0.out.size))
      have HX := Lib.hid hx
      have z1 : bf < wr.heap.size := by have := HB.out.size; have := K0.out.size; have := HBL.out; omega
      have z2 : bi < wr.heap.size := by have := HB.out.size; have := K0.out.size; have := HBL.out; omega
      have z3 : w.heap.size < wr.heap.size := by have := HB.out.size; omega
      clear hw0 ci c0 hAf hx
      by_cases he : (g : Int) = vi
      · have HE := Lib.hid (upF_hit (fr := s.fr) (n := nn) he)
        obtain rfl : R = some nn := HU.out.symm.trans HE.out
        have he2 : ((g : Int) == vi) = true := by simpa using he
        clear he
        go_wp2
        try rw [Exit.noGoto_ret]
        go_ret2
        exact ⟨rfl, HBS.out⟩
      · have he2 : ((g : Int) == vi) = false := by simpa using he
        by_cases hp : x.parent < 0 ∨ (g : Int) ≤ x.parent
        · have HE := Lib.hid (upF_out (n := nn) he HX.out hp)
          obtain rfl : R = none := HU.out.symm.trans HE.out
          rcases hp with hp | hp
          all_goals
            go_wp2
            all_goals
              try rw [Exit.noGoto_ret]
              go_ret2
              exact ⟨rfl, HBS.out.alloc HBS.out.size _⟩
        · have HE := Lib.hid (upF_on (n := nn) he HX.out hp)
          have hp1 : ¬ x.parent < 0 := by omega
          have hp2 : ¬ (g : Int) ≤ x.parent := by omega
          obtain ⟨pp, hpp⟩ : ∃ p : Nat, x.parent = p := ⟨x.parent.toNat, by omega⟩
          have HPP := Lib.hid hpp
          rw [hpp] at f0 hp1 hp2
          clear he hp hpp
          have HU2 : Hid (upF s.fr vi (pp + 1) pp (wrap64 (nn + x.down)) = R) := Lib.hid (by
            have h1 := HE.out
            rw [HPP.out, Int.toNat_natCast] at h1
            exact h1.symm.trans HU.out)
          go_wp2
          go_roundw
          case rel => exact ⟨pp, _, rfl, rfl, rfl, by omega, HU2, Lib.hid (HB.out.alloc HB.out.size _)⟩
          case measure => simp [intOf]; omega
end Go.Proofs.YtbefmlioampgcaaGreatDoor
