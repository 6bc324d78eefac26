/- Texts that belong together, joined: what each one holds is told ahead of it. -/
import Derived.Test.YtbefmlioampgcaaGreatDoorHK14
import Derived.Test.YtbefmlioampgcaaGreatDoorHK3
set_option linter.unusedVariables false
set_option linter.unusedSimpArgs false
/- The reference's words on expressions of a kernel, walked: own, room, Valid. -/
namespace Go.Proofs.YtbefmlioampgcaaGreatDoor
open Go.RowKit
set_option linter.unusedSimpArgs false
set_option linter.unusedVariables false

/-- A variable of a row. -/
theorem vars_at {w : World} {B n : Nat} {A : Option Addr} {vs : List KVar} (h : Reads w B 2 A n (varsC vs)) (hn : vs.length = n) {k : Nat} (hk : k < n) :
    ∃ b off x, A = some ⟨b, off, none⟩ ∧ b < B ∧ vs[k]? = some x ∧ x ∈ vs ∧ w.cell? ⟨b, off + k * 2, none⟩ = some (.int .u8 x.kind) ∧ w.cell? ⟨b, off + k * 2 + 1, none⟩ = some (.int .i64 x.dim) := by
  subst hn
  obtain ⟨b, off, x, h1, h2, h3, h4, hc⟩ := row_at (f := fun x : KVar => x.cells.toList) (fun _ => rfl) (by decide) h hk
  exact ⟨b, off, x, h1, h2, h3, h4, hc 0 _ rfl, hc 1 _ rfl⟩
theorem fieldsB_cases {e : KE} (h : fieldsB e = true) : e.kind = 1 ∧ e.l.length = 0 ∨ e.kind = 2 ∧ e.l.length = 0 ∧ 0 ≤ e.v ∨ e.kind = 3 ∧ e.l.length = 1 ∧ 0 ≤ e.v ∨ e.kind = 4 ∧ e.l.length = 1 ∧ 23 ≤ e.oper ∧ e.oper ≤ 26 ∨ e.kind = 5 ∧ e.l.length = 2 ∧ 1 ≤ e.oper ∧ e.oper ≤ 22 ∨ e.kind = 6 ∧ e.l.length = 1 ∧ 1 ≤ e.tk ∧ e.tk ≤ 3 := by
  unfold fieldsB at h
  split at h
  all_goals first
    | (cases h; done)
    | (simp only [decide_eq_true_eq] at h; omega)
theorem len_one {α : Type} {l : List α} (h : l.length = 1) : ∃ y, l = [y] := by
  match l, h with
  | [y], _ => exact ⟨y, rfl⟩
theorem len_two {α : Type} {l : List α} (h : l.length = 2) : ∃ y z, l = [y, z] := by
  match l, h with
  | [y, z], _ => exact ⟨y, z, rfl⟩
theorem rPrim (k : Nat) (w : World) : Calls Tryz.prog 96 #[.int .u8 k] w (RetE (.bool (primB k)) w) := by
  by_cases k1 : k = 1
  · subst k1
    go_enter Tryz.func96, Tryz.ntmps96
    go_wp2
    go_ret
    exact ⟨rfl, rfl⟩
  by_cases k2 : k = 2
  · subst k2
    go_enter Tryz.func96, Tryz.ntmps96
    go_wp2
    go_ret
    exact ⟨rfl, rfl⟩
  have e1 : ((k : Int) == 1) = false := by simp; omega
  have e2 : ((k : Int) == 2) = false := by simp; omega
  by_cases k3 : k = 3
  · subst k3
    go_enter Tryz.func96, Tryz.ntmps96
    go_wp2
    go_ret
    exact ⟨rfl, rfl⟩
  have e3 : ((k : Int) == 3) = false := by simp; omega
  have HR := Lib.hid (show primB k = false by simp [primB]; omega)
  clear k1 k2 k3
  go_enter Tryz.func96, Tryz.ntmps96
  go_wp2
  go_ret
  exact ⟨by rw [HR.out]; rfl, rfl⟩
set_option maxRecDepth 100000 in
set_option maxHeartbeats 4000000 in
theorem rOwn16 (e : KE) (h : e.kind ≤ 255) (w : World) : Calls Tryz.prog 76 #[.agg e.cells] w (RetV (.bool (fieldsB e)) w) := by
  obtain ⟨k, o, t, n, v, A, c, l⟩ := e
  obtain ⟨m, hm⟩ : ∃ m, l.length = m := ⟨_, rfl⟩
  simp only [KE.cells] at h ⊢
  have HT := Lib.hid (fun w1 => rPrim t w1)
  have HM := Lib.hid hm
  rw [hm]
  clear hm
  by_cases k1 : k = 1
  · subst k1
    go_enter Tryz.func76, Tryz.ntmps76
    go_wp2
    all_goals (go_ret; exact ⟨by refine ret_bool rfl ?_; simp only [fieldsB, HM.out]; rw [Bool.eq_iff_iff]; simp_all <;> omega, two_blocks _ _ _ _ _⟩)
  by_cases k2 : k = 2
  · subst k2
    go_enter Tryz.func76, Tryz.ntmps76
    go_wp2
    all_goals (go_ret; exact ⟨by refine ret_bool rfl ?_; simp only [fieldsB, HM.out]; rw [Bool.eq_iff_iff]; simp_all <;> omega, two_blocks _ _ _ _ _⟩)
  by_cases k3 : k = 3
  · subst k3
    go_enter Tryz.func76, Tryz.ntmps76
    go_wp2
    all_goals (go_ret; exact ⟨by refine ret_bool rfl ?_; simp only [fieldsB, HM.out]; rw [Bool.eq_iff_iff]; simp_all <;> omega, two_blocks _ _ _ _ _⟩)
  by_cases k4 : k = 4
  · subst k4
    go_enter Tryz.func76, Tryz.ntmps76
    go_wp2
    all_goals (go_ret; exact ⟨by refine ret_bool rfl ?_; simp only [fieldsB, HM.out]; rw [Bool.eq_iff_iff]; simp_all <;> omega, two_blocks _ _ _ _ _⟩)
  by_cases k5 : k = 5
  · subst k5
    go_enter Tryz.func76, Tryz.ntmps76
    go_wp2
    all_goals (go_ret; exact ⟨by refine ret_bool rfl ?_; simp only [fieldsB, HM.out]; rw [Bool.eq_iff_iff]; simp_all <;> omega, two_blocks _ _ _ _ _⟩)
  by_cases k6 : k = 6
  · subst k6
    go_enter Tryz.func76, Tryz.ntmps76
    have hp : primB t = decide (1 ≤ t ∧ t ≤ 3) := rfl
    have HP := Lib.hid hp
    clear hp
    generalize primB t = pt at *
    cases pt
    all_goals
      go_wp2_with (go_at_call 96; (with_reducible refine (HT.out _).mono ?_); rintro e w1 ⟨rfl, rfl⟩)
      all_goals (go_ret; exact ⟨by have hp := HP.out; refine ret_bool rfl ?_; simp only [fieldsB, HM.out]; rw [Bool.eq_iff_iff]; simp_all <;> omega, two_blocks _ _ _ _ _⟩)
  have e1 : ((k : Int) == 1) = false := by simp; omega
  have e2 : ((k : Int) == 2) = false := by simp; omega
  have e3 : ((k : Int) == 3) = false := by simp; omega
  have e4 : ((k : Int) == 4) = false := by simp; omega
  have e5 : ((k : Int) == 5) = false := by simp; omega
  have e6 : ((k : Int) == 6) = false := by simp; omega
  have HF : Hid (fieldsB ⟨k, o, t, n, v, A, c, l⟩ = false) := Lib.hid (by simp only [fieldsB])
  clear k1 k2 k3 k4 k5 k6
  go_enter Tryz.func76, Tryz.ntmps76
  go_wp2
  all_goals (go_ret; exact ⟨by rw [HF.out]; rfl, two_blocks _ _ _ _ _⟩)
end Go.Proofs.YtbefmlioampgcaaGreatDoor

/- The reference's words on expressions of a kernel, walked: room, Valid. -/
namespace Go.Proofs.YtbefmlioampgcaaGreatDoor
open Go.RowKit
set_option linter.unusedSimpArgs false
set_option linter.unusedVariables false

/-- How many are left as the reference answers it. -/
def roomZ : Option Nat → Int
  | none => -1
  | some r => r
def RoomOk (e : KE) : Prop := ∀ (inside left B : Nat) (w : World), inside ≤ 32 → left ≤ 256 → e.In w B → B ≤ w.heap.size →
  Calls Tryz.prog 49 #[.agg e.cells, .int .i64 inside, .int .i64 left] w (RetV (.int .i64 (roomZ (roomE inside left e))) w)
/-- What stands in the loop over the parts. -/
structure RoomAt (cs : Array Value) (l : List KE) (A : Option Addr) (inside left B : Nat) (w wr : World) (j r : Nat) : Prop where
  bel : Below w.heap.size w wr
  box : Blk wr w.heap.size 27 cs
  inn : kesIn wr B A l
  rm : roomL (inside + 1) (left - 1) (l.take j) = some r
  le : r ≤ 256
set_option maxRecDepth 100000 in
set_option maxHeartbeats 4000000 in
theorem rRoom (e : KE) : RoomOk e := by
  induction e using KE.ind with
  | h e ih =>
    intro inside left B w hd hl hi hB
    have hk := hi.one.1.1
    have HP := Lib.hid hi.parts
    have HIH := Lib.hid ih
    have HE := Lib.hid (roomE_eq inside left e)
    obtain ⟨W0, hW0⟩ : ∃ W, w.alloc (.cells e.cells 27) = W := ⟨_, rfl⟩
    have b0 : Blk W0 w.heap.size 27 e.cells := by rw [← hW0]; exact Blk.new w _ _
    have HK0 := Lib.hid (show Below w.heap.size w W0 by rw [← hW0]; exact (Below.refl _ _).alloc (Nat.le_refl _) _)
    have HB0 := Lib.hid b0
    have HO := Lib.hid (rOwn16 e hk W0)
    generalize roomE inside left e = R at *
    generalize hfb : fieldsB e = fb at *
    obtain ⟨kd, op, tk, nm, vv, A, c, l⟩ := e
    simp only [KE.cells] at hW0 b0 HB0 HO HP HIH HE ⊢
    obtain ⟨m, hm⟩ : ∃ m, l.length = m := ⟨_, rfl⟩
    have HM := Lib.hid hm
    have hlen := HP.out.1
    unfold lenOk at hlen
    rw [hm] at hW0 b0 HB0 HO hlen ⊢
    have e0 := b0.cell 0
    have e1 := b0.cell 1
    have e2 := b0.cell 2
    have e3 := b0.cell 3
    have e4 := b0.cell 4
    have e5 := b0.cell 5
    simp at e0 e1 e2 e3 e4 e5
    clear b0 hi hk hfb ih hm
    by_cases h32 : inside = 32
    · subst h32
      go_enter Tryz.func49, Tryz.ntmps49
      go_wp2
      go_ret
      exact ⟨by rw [HE.out]; rfl, HK0.out⟩
    have i32 : ((inside : Int) == 32) = false := by simp; omega
    have H32 := Lib.hid h32
    by_cases h0 : left = 0
    · subst h0
      clear h32
      go_enter Tryz.func49, Tryz.ntmps49
      go_wp2
      go_ret
      exact ⟨by rw [HE.out]; simp [roomZ], HK0.out⟩
    have i0 : ((left : Int) == 0) = false := by simp; omega
    have H0 := Lib.hid h0
    have hleft : (left : Int) - 1 = ((left - 1 : Nat) : Int) := by omega
    clear h32 h0
    cases fb with
    | false =>
      clear hleft
      go_enter Tryz.func49, Tryz.ntmps49
      go_wp2_with (go_at_call 76; (with_reducible refine HO.out.mono ?_); rintro e1 w1 ⟨rfl, hb1⟩)
      go_ret
      exact ⟨by rw [HE.out]; simp [roomZ], HK0.out.trans (hb1.mono HK0.out.size)⟩
    | true =>
      have HE2 : Hid (R = roomL (inside + 1) (left - 1) l) := Lib.hid (by rw [HE.out]; have := H32.out; have := H0.out; simp; omega)
      have HLF := Lib.hid hleft
      clear hleft HE
      go_enter Tryz.func49, Tryz.ntmps49
      go_wp2_with (first
        | (go_at_call 76; (with_reducible refine HO.out.mono ?_); rintro e1 w1 ⟨rfl, hb1⟩
           have AT0 : Hid (RoomAt #[.int .u8 kd, .int .u8 op, .int .u8 tk, .int .i32 nm, .int .i64 vv, .slice A m c] l A inside left B w w1 0 (left - 1)) := Lib.hid ⟨HK0.out.trans (hb1.mono HK0.out.size), HB0.out.call hb1, (HP.out.below (HK0.out.mono hB)).below (hb1.mono (Nat.le_trans hB HK0.out.size)), by rw [List.take_zero, roomL], by omega⟩
           clear hb1))
      go_loopw [2, 7] (fun v i wr => ∃ j r : Nat, j ≤ m ∧ i = .int .i64 j ∧ v = .int .i64 r ∧ Hid (RoomAt #[.int .u8 kd, .int .u8 op, .int .u8 tk, .int .i32 nm, .int .i64 vv, .slice A m c] l A inside left B w wr j r)) (fun _ i _ => m - (intOf i).toNat)
      case atStart => exact ⟨0, left - 1, Nat.zero_le _, rfl, by rw [HLF.out], AT0⟩
      case round =>
        clear AT0
        obtain ⟨j, r, hj, rfl, rfl, AT⟩ := hrel
        have bx := AT.out.box
        have g0 := bx.cell 0
        have g1 := bx.cell 1
        have g2 := bx.cell 2
        have g3 := bx.cell 3
        have g4 := bx.cell 4
        have g5 := bx.cell 5
        simp at g0 g1 g2 g3 g4 g5
        clear bx
        by_cases hlt : j < m
        · have hltI : (j : Int) < m := by omega
          obtain ⟨b, off, x, rfl, hb, hx, hin, c0, c1, c2, c3, c4, c5⟩ := kes_six AT.out.inn (by rw [HM.out]; exact hlt)
          have hBw := Nat.le_trans hB AT.out.bel.size
          have hC := HIH.out x (List.mem_of_getElem? hx) (inside + 1) r B wr (by have := H32.out; omega) AT.out.le hin hBw
          have hs : (((inside + 1 : Nat) : Int)) = (inside : Int) + 1 := by omega
          rw [hs] at hC
          simp only [KE.cells] at hC
          have HX := Lib.hid hx
          have HC := Lib.hid hC
          clear hC hs hx hin hBw
          cases hq : roomE (inside + 1) r x with
          | none =>
            rw [hq] at HC
            simp only [roomZ] at HC
            have HQ := Lib.hid hq
            clear hq
            go_wp2_with (go_at_call 49; (with_reducible refine HC.out.mono ?_); rintro e1 w1 ⟨rfl, hb1⟩)
            go_ret
            exact ⟨by rw [HE2.out, roomL_fail HX.out AT.out.rm HQ.out]; rfl, AT.out.bel.trans (hb1.mono AT.out.bel.size)⟩
          | some r' =>
            rw [hq] at HC
            simp only [roomZ] at HC
            have HQ := Lib.hid hq
            clear hq
            go_wp2_with (first
              | (go_at_call 49; (with_reducible refine HC.out.mono ?_); rintro e1 w1 ⟨rfl, hb1⟩
                 have HN : Hid (RoomAt #[.int .u8 kd, .int .u8 op, .int .u8 tk, .int .i32 nm, .int .i64 vv, .slice (some ⟨b, off, none⟩) m c] l (some ⟨b, off, none⟩) inside left B w w1 (j + 1) r') :=
                   Lib.hid ⟨AT.out.bel.trans (hb1.mono AT.out.bel.size), AT.out.box.call hb1, AT.out.inn.below (hb1.mono (Nat.le_trans hB AT.out.bel.size)), by rw [roomL_snoc HX.out AT.out.rm, HQ.out], by have := roomE_le _ _ _ _ HQ.out; have := AT.out.le; omega⟩
                 clear hb1))
            go_roundw
            case rel => exact ⟨j + 1, r', by omega, by go_num, rfl, HN⟩
            case measure => simp [intOf]; omega
        · have hltI : ¬ (j : Int) < m := by omega
          obtain rfl : m = j := by omega
          have htk : l.take m = l := List.take_of_length_le (by rw [HM.out]; omega)
          have hr := AT.out.rm
          rw [htk] at hr
          have HR := Lib.hid hr
          clear hr htk
          go_wp2
          go_ret
          exact ⟨by rw [HE2.out, HR.out]; rfl, AT.out.bel⟩
set_option maxHeartbeats 2000000 in
theorem rValid16 (e : KE) (B : Nat) (w : World) (hi : e.In w B) (hB : B ≤ w.heap.size) : Calls Tryz.prog 27 #[.agg e.cells] w (RetV (.bool (validE e)) w) := by
  obtain ⟨W0, hW0⟩ : ∃ W, w.alloc (.cells e.cells 27) = W := ⟨_, rfl⟩
  have b0 : Blk W0 w.heap.size 27 e.cells := by rw [← hW0]; exact Blk.new w _ _
  have K0 : Below w.heap.size w W0 := by rw [← hW0]; exact (Below.refl _ _).alloc (Nat.le_refl _) _
  have HK0 := Lib.hid K0
  have HC := Lib.hid (show Calls Tryz.prog 49 #[.agg e.cells, .int .i64 0, .int .i64 256] W0 (RetV (.int .i64 (roomZ (roomE 0 256 e))) W0) from rRoom e 0 256 B W0 (by omega) (by omega) (hi.below (K0.mono hB)) (Nat.le_trans hB K0.size))
  have HV : Hid (validE e = decide (0 ≤ roomZ (roomE 0 256 e))) := Lib.hid (by
    unfold validE
    cases roomE 0 256 e with
    | none => rfl
    | some r => simp [roomZ])
  generalize roomZ (roomE 0 256 e) = z at *
  generalize validE e = R at *
  simp only [KE.cells] at hW0 b0 HC ⊢
  have e0 := b0.cell 0
  have e1 := b0.cell 1
  have e2 := b0.cell 2
  have e3 := b0.cell 3
  have e4 := b0.cell 4
  have e5 := b0.cell 5
  simp at e0 e1 e2 e3 e4 e5
  clear b0 K0 hi
  go_enter Tryz.func27, Tryz.ntmps27
  go_wp2_with (go_at_call 49; (with_reducible refine HC.out.mono ?_); rintro e1 w1 ⟨rfl, hb1⟩)
  go_ret
  exact ⟨by refine ret_bool rfl ?_; rw [HV.out], HK0.out.trans (hb1.mono HK0.out.size)⟩
end Go.Proofs.YtbefmlioampgcaaGreatDoor

/- The document's words on the kinds that an expression fits, walked: fits, both. -/
namespace Go.Proofs.YtbefmlioampgcaaGreatDoor
open Go.RowKit
set_option linter.unusedSimpArgs false
set_option linter.unusedVariables false

def fitsZ (vs : List KVar) (e : KE) (q : Int) : Bool := fitsB vs e q.toNat
/-- An expression's cells at a place. -/
def RowE (W : World) (b off : Nat) (y : KE) : Prop := ∀ j u, y.cells[j]? = some u → W.cell? ⟨b, off + j, none⟩ = some u
theorem RowE.six {W : World} {b off : Nat} {y : KE} (h : RowE W b off y) : W.cell? ⟨b, off, none⟩ = some (.int .u8 y.kind) ∧ W.cell? ⟨b, off + 1, none⟩ = some (.int .u8 y.oper) ∧ W.cell? ⟨b, off + 2, none⟩ = some (.int .u8 y.tk) ∧
    W.cell? ⟨b, off + 3, none⟩ = some (.int .i32 y.n) ∧ W.cell? ⟨b, off + 4, none⟩ = some (.int .i64 y.v) ∧ W.cell? ⟨b, off + 5, none⟩ = some (.slice y.A y.l.length y.c) :=
  ⟨h 0 _ rfl, h 1 _ rfl, h 2 _ rfl, h 3 _ rfl, h 4 _ rfl, h 5 _ rfl⟩
theorem RowE.below {W W' : World} {b off B : Nat} {y : KE} (h : RowE W b off y) (hb : Below B W W') (hlt : b < B) : RowE W' b off y := fun j u hu => (hb.cell (p := ⟨b, off + j, none⟩) hlt).trans (h j u hu)
theorem kes_row {w : World} {B : Nat} {A : Option Addr} {l : List KE} (h : kesIn w B A l) {k : Nat} (hk : k < l.length) :
    ∃ b off x, A = some ⟨b, off, none⟩ ∧ b < B ∧ l[k]? = some x ∧ x.In w B ∧ RowE w b (off + k * 6) x := by
  obtain ⟨b, off, x, h1, h2, h3, h4, h5⟩ := kes_at h hk
  exact ⟨b, off, x, h1, h2, h3, h4, fun j u hu => h5 j u hu⟩
/-- What fits answers. -/
def RFitsOk (vs : List KVar) (e : KE) : Prop := ∀ (q : Int), q = 1 ∨ q = 2 ∨ q = 3 → ∀ (Av : Option Addr) (cv B : Nat) (w : World), Reads w B 2 Av vs.length (varsC vs) → vs.length ≤ 256 → e.In w B → B ≤ w.heap.size →
  Calls Tryz.prog 36 #[.slice Av vs.length cv, .agg e.cells, .int .u8 q] w (RetV (.bool (fitsZ vs e q)) w)
/-- The box of an expression, and its only part, in a world. -/
structure FtAt (w W : World) (cs : Array Value) (B b off : Nat) (y : KE) : Prop where
  bel : Below w.heap.size w W
  box : Blk W w.heap.size 27 cs
  row : RowE W b off y
  lt : b < w.heap.size
theorem FtAt.call {w W W1 : World} {cs : Array Value} {B b off : Nat} {y : KE} (h : FtAt w W cs B b off y) (hb : Below W.heap.size W W1) : FtAt w W1 cs B b off y :=
  ⟨h.bel.trans (hb.mono h.bel.size), h.box.call hb, h.row.below hb (Nat.lt_of_lt_of_le h.lt h.bel.size), h.lt⟩
section
variable {vs : List KVar} {Av : Option Addr} {cv B : Nat} {w : World} {o t c : Nat} {n v q : Int} {A : Option Addr}
set_option maxRecDepth 100000 in
set_option maxHeartbeats 4000000 in
theorem rFits_num (l : List KE) (hq : q = 1 ∨ q = 2 ∨ q = 3) (hn : i32ok n) (nv : Nat) :
    Calls Tryz.prog 36 #[.slice Av nv cv, .agg #[.int .u8 1, .int .u8 o, .int .u8 t, .int .i32 n, .int .i64 v, .slice A l.length c], .int .u8 q] w (RetV (.bool (fitsZ vs ⟨1, o, t, n, v, A, c, l⟩ q)) w) := by
  have HK0 := Lib.hid ((Below.refl w.heap.size w).alloc (Nat.le_refl _) (.cells #[.int .u8 1, .int .u8 o, .int .u8 t, .int .i32 n, .int .i64 v, .slice A l.length c] 27))
  have HQ := Lib.hid (show ∀ k : Nat, fitsB vs ⟨1, o, t, n, v, A, c, l⟩ k = (k == 1 || (k == 2 && decide (0 ≤ n ∧ n ≤ 255)) || (k == 3 && decide (n = 0 ∨ n = 1))) from fun k => by simp only [fitsB])
  unfold fitsZ
  generalize fitsB vs ⟨1, o, t, n, v, A, c, l⟩ = F at *
  generalize l.length = m at *
  rcases hq with rfl | rfl | rfl
  all_goals
    go_enter Tryz.func36, Tryz.ntmps36
    go_wp2
    all_goals (go_ret; exact ⟨by refine ret_bool rfl ?_; rw [HQ.out]; rw [Bool.eq_iff_iff]; simp_all <;> omega, (Below.refl _ _).alloc (Nat.le_refl _) _⟩)
set_option maxRecDepth 100000 in
set_option maxHeartbeats 4000000 in
theorem rFits_var (l : List KE) (hq : q = 1 ∨ q = 2 ∨ q = 3) (hv0 : 0 ≤ v) (hB : B ≤ w.heap.size) (hr : Reads w B 2 Av vs.length (varsC vs)) :
    Calls Tryz.prog 36 #[.slice Av vs.length cv, .agg #[.int .u8 2, .int .u8 o, .int .u8 t, .int .i32 n, .int .i64 v, .slice A l.length c], .int .u8 q] w (RetV (.bool (fitsZ vs ⟨2, o, t, n, v, A, c, l⟩ q)) w) := by
  obtain ⟨W0, hW0⟩ : ∃ W, w.alloc (.cells #[.int .u8 2, .int .u8 o, .int .u8 t, .int .i32 n, .int .i64 v, .slice A l.length c] 27) = W := ⟨_, rfl⟩
  have b0 : Blk W0 w.heap.size 27 #[.int .u8 2, .int .u8 o, .int .u8 t, .int .i32 n, .int .i64 v, .slice A l.length c] := by rw [← hW0]; exact Blk.new w _ _
  have K0 : Below w.heap.size w W0 := by rw [← hW0]; exact (Below.refl _ _).alloc (Nat.le_refl _) _
  have HK0 := Lib.hid K0
  have hr0 := hr.below (K0.mono hB)
  have HQ := Lib.hid (show ∀ k : Nat, fitsB vs ⟨2, o, t, n, v, A, c, l⟩ k = match vs[v.toNat]? with
    | some x => decide (x.dim = 0) && x.kind == k
    | none => false from fun k => by simp only [fitsB]; rfl)
  unfold fitsZ
  generalize fitsB vs ⟨2, o, t, n, v, A, c, l⟩ = F at *
  generalize l.length = m at *
  have e0 := b0.cell 0
  have e1 := b0.cell 1
  have e2 := b0.cell 2
  have e3 := b0.cell 3
  have e4 := b0.cell 4
  have e5 := b0.cell 5
  simp at e0 e1 e2 e3 e4 e5
  clear b0 K0 hr hB
  by_cases hv : v < (vs.length : Int)
  · obtain ⟨b', off', x, rfl, hb', hx, hm', d0, d1⟩ := vars_at hr0 rfl (k := v.toNat) (by omega)
    rw [hx] at HQ
    generalize vs.length = nv at *
    have hk2 : ∀ k : Nat, ((x.kind : Int) == (k : Int)) = (x.kind == k) := fun k => by rw [Bool.eq_iff_iff]; simp; omega
    have h1 := hk2 1
    have h2 := hk2 2
    have h3 := hk2 3
    clear hx hm' hr0 hk2
    rcases hq with rfl | rfl | rfl
    all_goals
      go_enter Tryz.func36, Tryz.ntmps36
      go_wp2
      all_goals (go_ret; exact ⟨by refine ret_bool rfl ?_; rw [HQ.out]; rw [Bool.eq_iff_iff]; simp_all <;> omega, HK0.out⟩)
  · have hx := List.getElem?_eq_none (l := vs) (i := v.toNat) (by omega)
    rw [hx] at HQ
    generalize vs.length = nv at *
    clear hr0 hx
    rcases hq with rfl | rfl | rfl
    all_goals
      go_enter Tryz.func36, Tryz.ntmps36
      go_wp2
      all_goals (go_ret; exact ⟨by refine ret_bool rfl ?_; rw [HQ.out], HK0.out⟩)
end
end Go.Proofs.YtbefmlioampgcaaGreatDoor
