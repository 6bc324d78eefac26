/- Texts that belong together, joined: what each one holds is told ahead of it. -/
import Derived.Test.YtljeecocbcffcaaDoorHK12
import Derived.Test.YtljeecocbcffcaaDoorHK7
/- The parts of the loader's lines, walked. -/
namespace Go.Proofs.YtljeecocbcffcaaDoor
open Go.RowKit
set_option linter.unusedSimpArgs false
set_option linter.unusedVariables false

/-- The cells of a line. -/
def lnC (lab : ByteArray) (f a : Int) (tg : ByteArray) : List Value := [.string lab, .int .u8 f, .int .i32 a, .string tg, .string ⟨#[]⟩]
theorem lnC_one (lab : ByteArray) (f a : Int) (tg : ByteArray) : ∀ u ∈ lnC lab f a tg, u.oneCell' = true := by
  intro u hu
  simp only [lnC, List.mem_cons, List.not_mem_nil, or_false] at hu
  rcases hu with rfl | rfl | rfl | rfl | rfl <;> rfl
/-- A call that leaves lines of its own. -/
def RetLn (n : Nat) (xs : List Value) (w : World) (e : Ending) (w' : World) : Prop :=
  ∃ A c, e = .returned (.slice A n c) ∧ w'.ownsRow w.heap.size 27 5 (.slice A n c) n xs ∧ Below w.heap.size w w'
theorem RetLn.lit {n : Nat} {w : World} (cs : Array Value) {k : World} (hk : k = w.alloc (.cells cs 27)) (hn : cs.size = n * 5) (hm : n ≤ 1000000) : RetLn n cs.toList w (.returned (.slice (some ⟨w.heap.size, 0, none⟩) n n)) k := by
  subst hk
  refine ⟨_, _, rfl, ⟨by simpa using hn, .inr ⟨w.heap.size, n, cs, rfl, Nat.le_refl _, Blk.new w 27 cs, Nat.le_refl _, by unfold maxLen; omega, by omega, ?_⟩⟩, (Below.refl _ _).alloc (Nat.le_refl _) _⟩
  rw [List.take_of_length_le (by simp; omega)]
theorem lFn (f a : Int) (w : World) : Calls Tryd.prog 31 #[.int .u8 f, .int .i32 a] w (RetLn 1 (lnC ⟨#[]⟩ f a ⟨#[]⟩) w) := by
  go_enter Tryd.func31, Tryd.ntmps31
  go_wp2
  go_ret
  exact RetLn.lit #[.string ⟨#[]⟩, .int .u8 f, .int .i32 a, .string ⟨#[]⟩, .string ⟨#[]⟩] rfl rfl (by decide)
theorem lJump (f : Int) (tg : ByteArray) (w : World) : Calls Tryd.prog 35 #[.int .u8 f, .string tg] w (RetLn 1 (lnC ⟨#[]⟩ f 0 tg) w) := by
  go_enter Tryd.func35, Tryd.ntmps35
  go_wp2
  go_ret
  exact RetLn.lit #[.string ⟨#[]⟩, .int .u8 f, .int .i32 0, .string tg, .string ⟨#[]⟩] rfl rfl (by decide)
theorem lOp (a : Int) (w : World) : Calls Tryd.prog 36 #[.int .i32 a] w (RetLn 1 (lnC ⟨#[]⟩ 15 a ⟨#[]⟩) w) := by
  go_enter Tryd.func36, Tryd.ntmps36
  go_wp2_with (go_at_call 31; refine (lFn 15 a w).mono ?_; rintro e w1 ⟨A, c, rfl, h1, h2⟩)
  go_ret
  exact ⟨A, c, rfl, h1, h2⟩
theorem lLdl (a : Int) (w : World) : Calls Tryd.prog 30 #[.int .i32 a] w (RetLn 1 (lnC ⟨#[]⟩ 7 a ⟨#[]⟩) w) := by
  go_enter Tryd.func30, Tryd.ntmps30
  go_wp2_with (go_at_call 31; refine (lFn 7 a w).mono ?_; rintro e w1 ⟨A, c, rfl, h1, h2⟩)
  go_ret
  exact ⟨A, c, rfl, h1, h2⟩
/-- The first line gets a label. -/
def RetNamed (v : Value) (n : Nat) (xs : List Value) (B : Nat) (w : World) (e : Ending) (w' : World) : Prop :=
  e = .returned v ∧ w'.ownsRow B 27 5 v n xs ∧ Below B w w'
theorem lNamed (lab : ByteArray) (A : Option Addr) (n c : Nat) (hn : 0 < n) (xs : List Value) (B : Nat) (w : World) (h : w.ownsRow B 27 5 (.slice A n c) n xs) :
    Calls Tryd.prog 33 #[.string lab, .slice A n c] w (RetNamed (.slice A n c) n (xs.set 0 (.string lab)) B w) := by
  have hxl : 0 < xs.length := by have := h.1; omega
  obtain ⟨g, cap, hv, hBg, hg⟩ := ownsRow_pos h hn
  injection hv with e1 e2 e3
  subst e1 e3
  have hst := h.stored 0 (.string lab)
  have c0 := h.cellAt 0 (by omega)
  have f0 := h.frozenAt 0
  rw [List.getElem?_eq_getElem hxl] at c0
  have hnI : (0 : Int) < n := by omega
  have HS := Lib.hid hst
  clear h hst
  go_enter Tryd.func33, Tryd.ntmps33
  go_wp2
  go_ret
  exact ⟨rfl, HS.out.1, (Below.refl _ _).setCell (p := ⟨g, 0, none⟩) hBg _⟩
/-- Slices of lines, one after the other. -/
inductive Segs (w : World) : List Value → Nat → List Value → Prop
  | nil : Segs w [] 0 []
  | cons {A : Option Addr} {n c m : Nat} {xs ys : List Value} {vs : List Value} : Reads w w.heap.size 5 A n xs → (∀ u ∈ xs, u.oneCell' = true) → Segs w vs m ys → Segs w (.slice A n c :: vs) (n + m) (xs ++ ys)
theorem Segs.keep {w w' : World} {vs : List Value} {n : Nat} {xs : List Value} (h : Segs w vs n xs) (hb : Below w.heap.size w w') : Segs w' vs n xs := by
  induction h with
  | nil => exact .nil
  | cons h1 h2 _ ih => exact .cons ((h1.below hb).more hb.size) h2 ih
set_option maxRecDepth 100000 in
set_option maxHeartbeats 4000000 in
theorem lJoin {vs : List Value} {n : Nat} {xs : List Value} (g : Nat) (w : World) (hs : Segs w vs n xs) (hb : Blk w g 24 vs.toArray) (hn : n ≤ 1000000) (N : Nat) (hvN : vs.length = N) (hN6 : N ≤ 1000000) :
    Calls Tryd.prog 32 #[.slice (some ⟨g, 0, none⟩) N N] w (RetLn n xs w) := by
  obtain ⟨i0, hi0, hz0, hz1, hz2⟩ := info_parts line_info
  have HB := Lib.hid hb
  have HS0 : Hid (∃ (m m2 : Nat) (ys zs : List Value), Segs w (vs.drop 0) m2 zs ∧ xs = ys ++ zs ∧ n = m + m2 ∧ w.ownsRow w.heap.size 27 5 (.slice none 0 0) m ys) := Lib.hid ⟨0, n, [], xs, by simpa using hs, by simp, by omega, World.ownsRow_nil _ _ _ _⟩
  have HN := Lib.hid hn
  have HNN := Lib.hid hvN
  clear hb hs hvN
  go_enter Tryd.func32, Tryd.ntmps32
  go_wp2
  go_loopw [3, 8] (fun v i wr => ∃ k : Nat, k ≤ N ∧ i = .int .i64 k ∧ Hid (Below w.heap.size w wr) ∧ Hid (∃ (m m2 : Nat) (ys zs : List Value), Segs w (vs.drop k) m2 zs ∧ xs = ys ++ zs ∧ n = m + m2 ∧ wr.ownsRow w.heap.size 27 5 v m ys)) (fun _ i _ => N - (intOf i).toNat)
  case atStart => exact ⟨0, by omega, rfl, Lib.hid (Below.refl _ _), HS0⟩
  case round =>
    clear HS0
    obtain ⟨k, hk, rfl, K, HS⟩ := hrel
    by_cases hlt : k < N
    · have hltI : (k : Int) < N := by omega
      obtain ⟨m, m2, ys, zs, hsg, hxs, hnm, ho⟩ := HS.out
      have hdr : vs.drop k = vs[k]'(by rw [HNN.out]; exact hlt) :: vs.drop (k + 1) := List.drop_eq_getElem_cons (by rw [HNN.out]; exact hlt)
      rw [hdr] at hsg
      have hcell := (HB.out.below K.out HB.out.lt).cell k
      rw [List.getElem?_toArray, List.getElem?_eq_getElem (by rw [HNN.out]; exact hlt)] at hcell
      generalize vs[k]'(by rw [HNN.out]; exact hlt) = v0 at *
      cases hsg with
      | cons h1 h2 h3 =>
        rename_i A n0 c m3 xs0 ys0
        have hw0 : w.heap.size ≤ wr.heap.size := K.out.size
        have R1 := (h1.below K.out).more hw0
        have HS3 := Lib.hid h3
        have HXS := Lib.hid hxs
        have HNM := Lib.hid hnm
        have O1 := Lib.hid ho
        have hmb : m + n0 ≤ 1000000 := by have := HN.out; omega
        clear hdr h1 h3 hxs hnm ho HS
        go_wp2_with (first
          | (at_builtin; refine wpList_append_any wr rfl (.tmp 12) (.tmp 13) 24 rfl w.heap.size 27 i0 _ 5 56 Tryd.underlying24 hi0 hz0 hz1 hz2 rfl (by decide) _ m ys rfl O1.out wr.heap.size A n0 c xs0 rfl R1 h2 (by unfold maxLen; omega) (by omega) hw0 ?_; intro v' w6 hown6 hg6 hat6
             have K6 := Lib.hid (K.out.grown hg6 hw0 (fun g e => (O1.out.lt g e).1))
             have HO6 := Lib.hid hown6
             clear hown6 hg6 hat6))
        go_roundw
        case rel => exact ⟨k + 1, by omega, by go_num, K6, Lib.hid ⟨m + n0, m3, ys ++ xs0, ys0, HS3.out, by rw [HXS.out, List.append_assoc], by rw [HNM.out]; omega, HO6.out⟩⟩
        case measure => simp [intOf]; omega
    · have hltI : ¬ (k : Int) < N := by omega
      obtain rfl : N = k := by omega
      obtain ⟨m, m2, ys, zs, hsg, hxs, hnm, ho⟩ := HS.out
      rw [List.drop_eq_nil_of_le (by rw [HNN.out]; omega)] at hsg
      cases hsg
      have HXS := Lib.hid hxs
      have HNM := Lib.hid hnm
      have HO := Lib.hid ho
      clear hxs hnm ho HS
      obtain ⟨A, c, rfl⟩ := own_form HO.out
      go_wp2
      go_ret
      refine ⟨A, c, ?_, ?_, K.out⟩
      · rw [HNM.out]; rfl
      · rw [HNM.out, HXS.out]; simpa using HO.out
end Go.Proofs.YtljeecocbcffcaaDoor

/- Lines of the loader, walked. -/
namespace Go.Proofs.YtljeecocbcffcaaDoor
open Go.RowKit
set_option linter.unusedSimpArgs false
set_option linter.unusedVariables false

theorem slices_info : True := trivial
theorem one_append {xs ys : List Value} (h1 : ∀ u ∈ xs, u.oneCell' = true) (h2 : ∀ u ∈ ys, u.oneCell' = true) : ∀ u ∈ xs ++ ys, u.oneCell' = true := by
  intro u hu
  rcases List.mem_append.1 hu with h | h
  · exact h1 u h
  · exact h2 u h
set_option maxRecDepth 100000 in
set_option maxHeartbeats 1000000 in
theorem lTransfer (o : Int) {A1 A2 A3 : Option Addr} {c1 c2 c3 : Nat} {x1 x2 x3 : List Value} (w : World) (h1 : Reads w w.heap.size 5 A1 1 x1) (h2 : Reads w w.heap.size 5 A2 1 x2) (h3 : Reads w w.heap.size 5 A3 1 x3)
    (e1 : ∀ u ∈ x1, u.oneCell' = true) (e2 : ∀ u ∈ x2, u.oneCell' = true) (e3 : ∀ u ∈ x3, u.oneCell' = true) :
    Calls Tryd.prog 34 #[.int .i32 o, .slice A1 1 c1, .slice A2 1 c2, .slice A3 1 c3] w (RetLn 4 (x1 ++ (x2 ++ (x3 ++ lnC ⟨#[]⟩ 15 o ⟨#[]⟩))) w) := by
  have H1 := Lib.hid h1
  have H2 := Lib.hid h2
  have H3 := Lib.hid h3
  clear h1 h2 h3
  go_enter Tryd.func34, Tryd.ntmps34
  go_wp2_with (go_at_call 36; refine (lOp o w).mono ?_; rintro e w1 ⟨A4, c4, rfl, ho4, hb4⟩)
  have bS := Blk.new w1 24 #[.slice A1 1 c1, .slice A2 1 c2, .slice A3 1 c3, .slice A4 1 c4]
  have kS : Below w1.heap.size w1 (w1.alloc (.cells #[.slice A1 1 c1, .slice A2 1 c2, .slice A3 1 c3, .slice A4 1 c4] 24)) := (Below.refl _ _).alloc (Nat.le_refl _) _
  have SG : Segs w1 [.slice A1 1 c1, .slice A2 1 c2, .slice A3 1 c3, .slice A4 1 c4] 4 (x1 ++ (x2 ++ (x3 ++ (lnC ⟨#[]⟩ 15 o ⟨#[]⟩ ++ [])))) :=
    Segs.cons (m := 3) ((H1.out.below hb4).more hb4.size) e1 (Segs.cons (m := 2) ((H2.out.below hb4).more hb4.size) e2 (Segs.cons (m := 1) ((H3.out.below hb4).more hb4.size) e3 (Segs.cons (m := 0) (Reads.of_own ho4) (lnC_one _ _ _ _) .nil)))
  have HJ := Lib.hid (lJoin w1.heap.size _ (SG.keep kS) bS (by decide) 4 rfl (by decide))
  have KS := Lib.hid ((hb4.trans (kS.mono hb4.size)))
  have hz := (hb4.trans (kS.mono hb4.size)).size
  clear SG kS bS ho4 hb4
  go_wp2_with (go_at_call 32; go_loud (refine HJ.out.mono ?_); rintro e w2 ⟨A5, c5, rfl, ho5, hb5⟩)
  go_ret
  refine ⟨A5, c5, rfl, ?_, KS.out.trans (hb5.mono hz)⟩
  have := World.ownsRow.weak ho5 hz
  simpa using this
/-- Slices of lines that lie somewhere. -/
def lnL (f : Nat) (a : Int) : LineL := ⟨[], f, a, [], []⟩
def sLoop : List UInt8 := [108, 111, 111, 112]
def sRun : List UInt8 := [114, 117, 110]
def sForward : List UInt8 := [102, 111, 114, 119, 97, 114, 100]
/-- The lines of the loader. -/
def bootL : List LineL := [lnL 11 8, lnL 13 0, lnL 13 0, lnL 13 1, ⟨sLoop, 1, 2, [], []⟩, lnL 7 1, lnL 4 4, lnL 15 7, lnL 1 3, lnL 7 1, lnL 4 8, lnL 15 7,
  lnL 7 2, ⟨[], 10, 0, sRun, []⟩, lnL 7 2, lnL 12 1, ⟨[], 10, 0, sForward, []⟩, lnL 7 3, lnL 7 1, lnL 7 4, lnL 15 7, ⟨[], 0, 0, sLoop, []⟩,
  ⟨sForward, 1, 5, [], []⟩, lnL 7 1, lnL 7 4, lnL 15 7, lnL 1 5, lnL 7 3, lnL 7 4, lnL 15 11, ⟨[], 0, 0, sLoop, []⟩, ⟨sRun, 7, 4, [], []⟩, lnL 7 3, lnL 15 60, lnL 15 0, lnL 15 6]
structure PC where
  A : Option Addr
  n : Nat
  c : Nat
  xs : List Value
def Pieces (w : World) (B : Nat) (ps : List PC) : Prop := ∀ p ∈ ps, Reads w B 5 p.A p.n p.xs ∧ ∀ u ∈ p.xs, u.oneCell' = true
theorem Pieces.keep {w w' : World} {B B' : Nat} {ps : List PC} (h : Pieces w B ps) (hb : Below B w w') (hB : B ≤ B') : Pieces w' B' ps := fun p hp => ⟨((h p hp).1.below hb).more hB, (h p hp).2⟩
theorem Pieces.push {w : World} {B : Nat} {ps : List PC} {A : Option Addr} {n c : Nat} {xs : List Value} (h : Pieces w B ps) (hr : Reads w B 5 A n xs) (h1 : ∀ u ∈ xs, u.oneCell' = true) : Pieces w B (⟨A, n, c, xs⟩ :: ps) := by
  intro p hp
  rcases List.mem_cons.1 hp with rfl | hp
  · exact ⟨hr, h1⟩
  · exact h p hp
theorem Pieces.get {w : World} {B : Nat} {ps : List PC} (h : Pieces w B ps) {p : PC} (i : Nat) (hi : ps[i]? = some p) : Reads w B 5 p.A p.n p.xs ∧ ∀ u ∈ p.xs, u.oneCell' = true := h p (List.mem_of_getElem? hi)
theorem own_base {w : World} {B e size n : Nat} {v : Value} {xs : List Value} (h : w.ownsRow B e size v n xs) (hn : 0 < n) : B ≤ w.heap.size := by
  obtain ⟨g, cap, _, h1, h2⟩ := ownsRow_pos h hn
  omega
theorem named_one {xs : List Value} {lab : ByteArray} (h : ∀ x ∈ xs, x.oneCell' = true) : ∀ x ∈ xs.set 0 (Value.string lab), x.oneCell' = true := by
  intro x hx
  rcases List.mem_or_eq_of_mem_set hx with hx | rfl
  · exact h x hx
  · rfl
theorem Pieces.seg {w : World} {ps : List PC} (h : Pieces w w.heap.size ps) {p : PC} (i : Nat) (hi : ps[i]? = some p) {vs : List Value} {m : Nat} {ys : List Value} (hs : Segs w vs m ys) : Segs w (.slice p.A p.n p.c :: vs) (p.n + m) (p.xs ++ ys) :=
  .cons (h p (List.mem_of_getElem? hi)).1 (h p (List.mem_of_getElem? hi)).2 hs
set_option maxRecDepth 100000 in
set_option maxHeartbeats 8000000 in
theorem lLines (w : World) : Calls Tryd.prog 11 #[] w (RetLn 36 (linesL bootL) w) := by
  have P0 : Hid (Pieces w w.heap.size []) := Lib.hid (fun p hp => by cases hp)
  have K0 := Lib.hid (Below.refl w.heap.size w)
  go_enter Tryd.func11, Tryd.ntmps11
  go_upto_region 2 with (fail)
  have K := K0
  have P := P0
  clear K0 P0
  go_wp2_with (first
    | (go_at_call 31; refine (lFn _ _ _).mono ?_; rintro e w1 ⟨A1, c1, rfl, O1, hb1⟩
       have PB := Lib.hid (P.out.keep hb1 (Nat.le_refl _))
       have O := Lib.hid O1
       have P := Lib.hid ((P.out.keep hb1 hb1.size).push (c := c1) (Reads.of_own O1) (lnC_one _ _ _ _))
       have HWB := Lib.hid K.out.size
       have K := Lib.hid (K.out.trans (hb1.mono K.out.size))
       clear hb1 O1)
    | (go_at_call 30; refine (lLdl _ _).mono ?_; rintro e w1 ⟨A1, c1, rfl, O1, hb1⟩
       have PB := Lib.hid (P.out.keep hb1 (Nat.le_refl _))
       have O := Lib.hid O1
       have P := Lib.hid ((P.out.keep hb1 hb1.size).push (c := c1) (Reads.of_own O1) (lnC_one _ _ _ _))
       have HWB := Lib.hid K.out.size
       have K := Lib.hid (K.out.trans (hb1.mono K.out.size))
       clear hb1 O1)
    | (go_at_call 35; refine (lJump _ _ _).mono ?_; rintro e w1 ⟨A1, c1, rfl, O1, hb1⟩
       have PB := Lib.hid (P.out.keep hb1 (Nat.le_refl _))
       have O := Lib.hid O1
       have P := Lib.hid ((P.out.keep hb1 hb1.size).push (c := c1) (Reads.of_own O1) (lnC_one _ _ _ _))
       have HWB := Lib.hid K.out.size
       have K := Lib.hid (K.out.trans (hb1.mono K.out.size))
       clear hb1 O1)
    | (go_at_call 36; refine (lOp _ _).mono ?_; rintro e w1 ⟨A1, c1, rfl, O1, hb1⟩
       have PB := Lib.hid (P.out.keep hb1 (Nat.le_refl _))
       have O := Lib.hid O1
       have P := Lib.hid ((P.out.keep hb1 hb1.size).push (c := c1) (Reads.of_own O1) (lnC_one _ _ _ _))
       have HWB := Lib.hid K.out.size
       have K := Lib.hid (K.out.trans (hb1.mono K.out.size))
       clear hb1 O1)
    | (go_at_call 34; refine (lTransfer _ _ (P.out.get 2 rfl).1 (P.out.get 1 rfl).1 (P.out.get 0 rfl).1 (P.out.get 2 rfl).2 (P.out.get 1 rfl).2 (P.out.get 0 rfl).2).mono ?_; rintro e w1 ⟨A1, c1, rfl, O1, hb1⟩
       have PB := Lib.hid (P.out.keep hb1 (Nat.le_refl _))
       have O := Lib.hid O1
       have P := Lib.hid ((P.out.keep hb1 hb1.size).push (c := c1) (Reads.of_own O1) (one_append (P.out.get 2 rfl).2 (one_append (P.out.get 1 rfl).2 (one_append (P.out.get 0 rfl).2 (lnC_one _ _ _ _)))))
       have HWB := Lib.hid K.out.size
       have K := Lib.hid (K.out.trans (hb1.mono K.out.size))
       clear hb1 O1)
    | (go_at_call 33; go_loud (refine (lNamed _ _ _ _ (by decide) _ _ _ O.out).mono ?_); rintro e w1 ⟨rfl, O1, hb1⟩
       have P := Lib.hid ((PB.out.keep hb1 (Nat.le_trans (own_base O.out (by decide)) hb1.size)).push (c := c1) (Reads.of_own O1) (named_one (P.out.get 0 rfl).2))
       have K := Lib.hid (K.out.trans (hb1.mono HWB.out))
       clear hb1 O1))
  have SG := (P.out.seg 35 rfl (P.out.seg 34 rfl (P.out.seg 33 rfl (P.out.seg 32 rfl (P.out.seg 28 rfl (P.out.seg 24 rfl (P.out.seg 23 rfl (P.out.seg 22 rfl (P.out.seg 21 rfl (P.out.seg 20 rfl (P.out.seg 19 rfl (P.out.seg 15 rfl (P.out.seg 14 rfl (P.out.seg 10 rfl (P.out.seg 6 rfl (P.out.seg 5 rfl (P.out.seg 4 rfl (P.out.seg 3 rfl (P.out.seg 2 rfl (P.out.seg 1 rfl (P.out.seg 0 rfl .nil)))))))))))))))))))))
  dsimp only at SG
  have kS := fun o => (Below.refl w1.heap.size w1).alloc (Nat.le_refl _) o
  have HSG := Lib.hid SG
  have HKS := Lib.hid kS
  clear P PB SG kS
  have HJ := Lib.hid (lJoin w1.heap.size _ (HSG.out.keep (HKS.out _)) (Blk.new _ _ _) (by show 36 ≤ 1000000; decide) 21 rfl (by decide))
  clear HSG
  go_wp2_with (go_at_call 32; refine (HJ.out).mono ?_; rintro e w2 ⟨A5, c5, rfl, ho5, hb5⟩)
  go_ret
  have hkk := K.out.trans (((HKS.out _).trans (hb5.mono (HKS.out _).size)).mono K.out.size)
  exact ⟨A5, c5, rfl, ho5.weak (Nat.le_trans K.out.size (HKS.out _).size), hkk⟩
end Go.Proofs.YtljeecocbcffcaaDoor
