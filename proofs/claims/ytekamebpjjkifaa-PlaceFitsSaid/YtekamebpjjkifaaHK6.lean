/- Texts that belong together, joined: what each one holds is told ahead of it. -/
import Derived.Test.YtekamebpjjkifaaHK4
import Derived.Test.YtekamebpjjkifaaHK5
/- Small methods of the checker, walked: channel, plain, shape. -/
namespace Go.Proofs.Ytekamebpjjkifaa
open Go.RowKit
set_option linter.unusedSimpArgs false
set_option linter.unusedVariables false

set_option maxHeartbeats 2000000 in
theorem kChannel (k : KK) (n : Int) (ch no : Int) (item B bc : Nat) (w : World) (hc : Chk w B bc k n) (hch : i64ok ch) :
    Calls Try.prog 74 #[.pointer (some ⟨bc, 0, none⟩), .int .i64 ch, .int .u8 item, .int .i64 no] w (RetE (.bool (channelB k.chans.length ch item no)) w) := by
  have c1 := hc.c1
  have HP := Lib.hid (fun w1 => kPrim item w1)
  have hnc := hc.ok.nc
  obtain ⟨nc, hn⟩ : ∃ m, k.chans.length = m := ⟨_, rfl⟩
  rw [hn] at c1 hnc ⊢
  clear hc hn
  have HD := Lib.hid (show channelB nc ch item no = (decide (0 ≤ ch ∧ ch < nc ∧ ch ≠ no) && primB item && (decide (1 < ch) || item == 1)) from rfl)
  generalize channelB nc ch item no = R at *
  by_cases h0 : 0 ≤ ch
  · by_cases h1 : ch < nc
    · by_cases h2 : ch = no
      · subst h2
        go_enter Try.func74, Try.ntmps74
        go_wp2
        go_ret
        exact ⟨by refine ret_bool rfl ?_; rw [HD.out]; simp, rfl⟩
      · cases hp : primB item with
        | false =>
          rw [hp] at HP HD
          have HQ := Lib.hid hp
          clear hp
          go_enter Try.func74, Try.ntmps74
          go_wp2_with (go_at_call 34; (with_reducible refine (HP.out _).mono ?_); rintro e w1 ⟨rfl, rfl⟩)
          go_ret
          exact ⟨by refine ret_bool rfl ?_; rw [HD.out]; simp, rfl⟩
        | true =>
          rw [hp] at HP HD
          have HQ := Lib.hid hp
          clear hp
          by_cases h3 : 1 < ch
          · go_enter Try.func74, Try.ntmps74
            go_wp2_with (go_at_call 34; (with_reducible refine (HP.out _).mono ?_); rintro e w1 ⟨rfl, rfl⟩)
            go_ret
            exact ⟨by refine ret_bool rfl ?_; rw [HD.out]; simp [h0, h1, h2, h3], rfl⟩
          · go_enter Try.func74, Try.ntmps74
            go_wp2_with (go_at_call 34; (with_reducible refine (HP.out _).mono ?_); rintro e w1 ⟨rfl, rfl⟩)
            go_ret
            exact ⟨by refine ret_bool rfl ?_; rw [HD.out]; simp [h0, h1, h2, h3]; rw [Bool.eq_iff_iff]; simp; omega, rfl⟩
    · go_enter Try.func74, Try.ntmps74
      go_wp2
      go_ret
      exact ⟨by refine ret_bool rfl ?_; rw [HD.out]; simp; intros; omega, rfl⟩
  · go_enter Try.func74, Try.ntmps74
    go_wp2
    go_ret
    exact ⟨by refine ret_bool rfl ?_; rw [HD.out]; simp; intros; omega, rfl⟩
end Go.Proofs.Ytekamebpjjkifaa

/- The checker's words on expressions and places, walked in the program: fits, place, input. -/
namespace Go.Proofs.Ytekamebpjjkifaa
open Go.RowKit
set_option linter.unusedSimpArgs false
set_option linter.unusedVariables false

theorem fits_has (vs : List KVar) (e : KE) (q : Nat) (hq : q = 1 ∨ q = 2 ∨ q = 3) : (if q = 1 then fitsB vs e 1 else if q = 2 then fitsB vs e 2 else fitsB vs e 3) = fitsB vs e q := by
  rcases hq with rfl | rfl | rfl <;> simp
set_option maxRecDepth 100000 in
set_option maxHeartbeats 2000000 in
theorem kFits (k : KK) (n : Int) (e : KE) (q : Nat) (hq : q = 1 ∨ q = 2 ∨ q = 3) (B bc : Nat) (w : World) (hc : Chk w B bc k n) (hi : e.In w B) :
    Calls Try.prog 72 #[.pointer (some ⟨bc, 0, none⟩), .agg e.cells, .int .u8 q] w (RetV (.bool (FitsB k.vars e q)) w) := by
  obtain ⟨W0, hW0⟩ : ∃ W, w.alloc (.cells e.cells 99) = W := ⟨_, rfl⟩
  have b0 : Blk W0 w.heap.size 99 e.cells := by rw [← hW0]; exact Blk.new w _ _
  have K0 : Below w.heap.size w W0 := by rw [← hW0]; exact (Below.refl _ _).alloc (Nat.le_refl _) _
  have hc0 := hc.call K0
  have hi0 := hi.below (K0.mono hc.leB)
  have HK0 := Lib.hid K0
  have HV := Lib.hid (kValid e B W0 hi0 hc0.leB)
  have HR := Lib.hid (show FitsB k.vars e q = (validE e && fitsB k.vars e q) from rfl)
  cases hv : validE e with
  | false =>
    rw [hv] at HV HR
    simp only [KE.cells] at hW0 HV b0 ⊢
    have e0 := b0.cell 0
    have e1 := b0.cell 1
    have e2 := b0.cell 2
    have e3 := b0.cell 3
    have e4 := b0.cell 4
    have e5 := b0.cell 5
    simp at e0 e1 e2 e3 e4 e5
    clear b0 K0 hc0 hi0 hv hi hc
    go_enter Try.func72, Try.ntmps72
    go_wp2_with (go_at_call 81; (with_reducible refine HV.out.mono ?_); rintro e1 w1 ⟨rfl, hb1⟩)
    go_ret
    exact ⟨by rw [HR.out]; rfl, HK0.out.trans (hb1.mono HK0.out.size)⟩
  | true =>
    have HB0 := Lib.hid b0
    have HC := Lib.hid (fun (w1 : World) (hb : Below W0.heap.size W0 w1) => kKinds k n e (validE_all hv) B bc w1 (hc0.call hb) (hi0.below (hb.mono hc0.leB)))
    have HH := Lib.hid (fun w1 => show Calls Try.prog 83 #[.int .u64 (kindsN k.vars e : Nat), .int .u8 q] w1 (RetE (.bool (if q = 1 then fitsB k.vars e 1 else if q = 2 then fitsB k.vars e 2 else fitsB k.vars e 3)) w1) from kHas _ _ _ q hq w1)
    rw [fits_has k.vars e q hq] at HH
    rw [hv] at HV HR
    generalize kindsN k.vars e = kn at *
    generalize fitsB k.vars e q = fb at *
    simp only [KE.cells] at hW0 HV b0 HB0 HC ⊢
    have e0 := b0.cell 0
    have e1 := b0.cell 1
    have e2 := b0.cell 2
    have e3 := b0.cell 3
    have e4 := b0.cell 4
    have e5 := b0.cell 5
    simp at e0 e1 e2 e3 e4 e5
    clear b0 K0 hc0 hi0 hv hi hc
    go_enter Try.func72, Try.ntmps72
    go_wp2_with (first
      | (go_at_call 81; (with_reducible refine HV.out.mono ?_); rintro e1 w1 ⟨rfl, hb1⟩
         have b1 := HB0.out.call hb1
         have f0 := b1.cell 0
         have f1 := b1.cell 1
         have f2 := b1.cell 2
         have f3 := b1.cell 3
         have f4 := b1.cell 4
         have f5 := b1.cell 5
         simp at f0 f1 f2 f3 f4 f5
         have HC1 := Lib.hid (HC.out w1 hb1)
         have HB1 := Lib.hid hb1
         clear hb1 b1)
      | (go_at_call 82; (with_reducible refine HC1.out.mono ?_); rintro e2 w2 ⟨rfl, hb2⟩
         have HB2 := Lib.hid hb2
         clear hb2)
      | (go_at_call 83; (with_reducible refine (HH.out _).mono ?_); rintro e3 w3 ⟨rfl, rfl⟩))
    go_ret
    exact ⟨by rw [HR.out]; rfl, HK0.out.trans ((HB1.out.trans (HB2.out.mono HB1.out.size)).mono HK0.out.size)⟩
theorem kFits1 (k : KK) (n : Int) (e : KE) (B bc : Nat) (w : World) (hc : Chk w B bc k n) (hi : e.In w B) :
    Calls Try.prog 72 #[.pointer (some ⟨bc, 0, none⟩), .agg e.cells, .int .u8 1] w (RetV (.bool (FitsB k.vars e 1)) w) := kFits k n e 1 (by simp) B bc w hc hi
theorem kFits3 (k : KK) (n : Int) (e : KE) (B bc : Nat) (w : World) (hc : Chk w B bc k n) (hi : e.In w B) :
    Calls Try.prog 72 #[.pointer (some ⟨bc, 0, none⟩), .agg e.cells, .int .u8 3] w (RetV (.bool (FitsB k.vars e 3)) w) := kFits k n e 3 (by simp) B bc w hc hi
end Go.Proofs.Ytekamebpjjkifaa

/- Places and inputs of the checker, walked in the program. -/
namespace Go.Proofs.Ytekamebpjjkifaa
open Go.RowKit
set_option linter.unusedSimpArgs false
set_option linter.unusedVariables false

def oneFits (vs : List KVar) (l : List KE) : Bool := match l with
  | [e] => FitsB vs e 1
  | _ => false
theorem oneFits_no {vs : List KVar} {l : List KE} (h : l.length ≠ 1) : oneFits vs l = false := by
  match l, h with
  | [], _ => rfl
  | [_], h => exact absurd rfl h
  | _ :: _ :: _, _ => rfl
theorem placeB_eq (vs : List KVar) (v : Int) (A : Option Addr) (c : Nat) (l : List KE) (q : Nat) : placeB vs ⟨v, A, c, l⟩ q = if v < 0 then false else match vs[v.toNat]? with
    | none => false
    | some x => x.kind == q && (if x.dim = 0 then decide (l.length = 0) else oneFits vs l) := rfl
theorem below_drew2 (w : World) (a b : Nat) : Below w.heap.size w ((w.drewN a).drewN b) := below_drewN (below_drewN (Below.refl _ _) _) _
set_option maxRecDepth 100000 in
set_option maxHeartbeats 2000000 in
theorem kPlace (k : KK) (n : Int) (p : KPl) (q : Nat) (B bc : Nat) (w : World) (hc : Chk w B bc k n) (hi : p.In w B) :
    Calls Try.prog 71 #[.pointer (some ⟨bc, 0, none⟩), .agg p.cells, .int .u8 q] w (RetV (.bool (placeB k.vars p q)) w) := by
  obtain ⟨v, A, c, l⟩ := p
  obtain ⟨W0, hW0⟩ : ∃ W, w.alloc (.cells #[.int .i64 v, .slice A l.length c] 101) = W := ⟨_, rfl⟩
  have b0 : Blk W0 w.heap.size 101 #[.int .i64 v, .slice A l.length c] := by rw [← hW0]; exact Blk.new w _ _
  have K0 : Below w.heap.size w W0 := by rw [← hW0]; exact (Below.refl _ _).alloc (Nat.le_refl _) _
  have hc0 := hc.call K0
  have hi0 : kesIn W0 B A l := hi.2.below (K0.mono hc.leB)
  have HK0 := Lib.hid K0
  have HCK := Lib.hid hc0
  have HR := Lib.hid (placeB_eq k.vars v A c l q)
  generalize placeB k.vars ⟨v, A, c, l⟩ q = R at *
  have v0 := hc0.c0
  have HV := Lib.hid (fun (h0 : ¬ v < 0) (h1 : v < (k.vars.length : Int)) => vars_at hc0.inn.1.2.1 rfl (k := v.toNat) (by omega))
  have HN := Lib.hid (fun (h1 : ¬ v < (k.vars.length : Int)) => List.getElem?_eq_none (l := k.vars) (i := v.toNat) (by omega))
  simp only [KPl.cells]
  have e0 := b0.cell 0
  have e1 := b0.cell 1
  simp at e0 e1
  clear b0 K0 hc0 hc hi
  by_cases h0 : v < 0
  · have H0 := Lib.hid h0
    clear HV HN hi0
    go_enter Try.func71, Try.ntmps71
    go_upto_region 1 with fail
    go_quiet (fail)
    go_wp2
    go_ret
    exact ⟨by refine ret_bool rfl ?_; rw [HR.out, if_pos H0.out], below_drewN HK0.out _⟩
  have HR := Lib.hid (HR.out.trans (if_neg h0))
  by_cases h1 : v < (k.vars.length : Int)
  · obtain ⟨b', off', x, hA, hb', hx, hm', d0, d1⟩ := HV.out h0 h1
    rw [hA] at v0
    have HX := Lib.hid hx
    clear HV HN
    obtain ⟨nv, hnv⟩ : ∃ t, k.vars.length = t := ⟨_, rfl⟩
    rw [hnv] at v0 h1
    have h1n : ¬ (nv : Int) ≤ v := by omega
    clear hnv hx hm' hA
    by_cases hk : x.kind = q
    · subst hk
      by_cases hd : x.dim = 0
      · have HD := Lib.hid hd
        rw [hd] at d1
        clear hd
        obtain ⟨m, hm⟩ : ∃ m, l.length = m := ⟨_, rfl⟩
        have HM := Lib.hid hm
        rw [hm] at e1 hW0 ⊢
        clear hm hi0
        go_enter Try.func71, Try.ntmps71
        go_upto_region 1 with fail
        go_quiet (fail)
        go_upto_region 3 with fail
        go_quiet (fail)
        go_wp2
        go_ret
        exact ⟨by refine ret_bool rfl ?_; rw [HR.out, HX.out]; simp only [HD.out, HM.out]; rw [Bool.eq_iff_iff]; simp, below_drewN HK0.out _⟩
      · have HD := Lib.hid hd
        by_cases hl : l.length = 1
        · obtain ⟨e, rfl⟩ := len_one hl
          obtain ⟨b, off, y, rfl, hb, hy, hin, c0, c1, c2, c3, c4, c5⟩ := kes_six hi0 (k := 0) (by simp)
          obtain rfl : e = y := by simpa using hy
          have HF := Lib.hid (fun (w1 : World) (hw : Below W0.heap.size W0 w1) => kFits1 k n e B bc w1 (HCK.out.call hw) (hin.below (hw.mono HCK.out.leB)))
          simp only [KE.cells, List.length_singleton, Nat.zero_mul, Nat.add_zero] at HF hW0 e1 c0 c1 c2 c3 c4 c5 ⊢
          obtain ⟨fb, hfb⟩ : ∃ t, FitsB k.vars e 1 = t := ⟨_, rfl⟩
          have HFB := Lib.hid hfb
          rw [hfb] at HF
          clear hfb hy hin hi0 hl
          go_enter Try.func71, Try.ntmps71
          go_upto_region 1 with fail
          go_quiet (fail)
          go_upto_region 3 with fail
          go_quiet (fail)
          go_wp2_with (go_at_call 72; go_loud (with_reducible refine (HF.out _ (below_drewN (Below.refl _ _) _)).mono ?_); rintro e3 w3 ⟨rfl, hb3⟩)
          go_ret
          exact ⟨by refine ret_bool rfl ?_; rw [HR.out, HX.out]; simp [HD.out, oneFits, HFB.out], (below_drewN HK0.out _).trans (hb3.mono HK0.out.size)⟩
        · have HF := Lib.hid (oneFits_no (vs := k.vars) hl)
          obtain ⟨m, hm⟩ : ∃ m, l.length = m := ⟨_, rfl⟩
          have hm1 : ((m : Int) == 1) = false := by simp; omega
          rw [hm] at e1 hW0 ⊢
          clear hm hi0 hl
          go_enter Try.func71, Try.ntmps71
          go_upto_region 1 with fail
          go_quiet (fail)
          go_upto_region 3 with fail
          go_quiet (fail)
          go_wp2
          go_ret
          exact ⟨by refine ret_bool rfl ?_; rw [HR.out, HX.out]; simp only [if_neg HD.out, HF.out, Bool.and_false], below_drewN HK0.out _⟩
    · have hk2 : ((x.kind : Int) == (q : Int)) = false := by simp; omega
      have HKN := Lib.hid (show (x.kind == q) = false by simpa using hk)
      clear hk hi0
      go_enter Try.func71, Try.ntmps71
      go_upto_region 1 with fail
      go_quiet (fail)
      go_wp2
      go_ret
      exact ⟨by refine ret_bool rfl ?_; rw [HR.out, HX.out]; simp only [HKN.out, Bool.false_and], below_drewN HK0.out _⟩
  · have HX := Lib.hid (HN.out h1)
    clear HV HN hi0
    obtain ⟨nv, hnv⟩ : ∃ t, k.vars.length = t := ⟨_, rfl⟩
    rw [hnv] at v0 h1
    have h1n : (nv : Int) ≤ v := by omega
    clear hnv
    go_enter Try.func71, Try.ntmps71
    go_upto_region 1 with fail
    go_quiet (fail)
    go_wp2
    go_ret
    exact ⟨by refine ret_bool rfl ?_; rw [HR.out, HX.out], below_drewN HK0.out _⟩
set_option maxRecDepth 100000 in
set_option maxHeartbeats 2000000 in
theorem kInput (k : KK) (n : Int) (ch : Int) (item : Nat) (p : KPl) (B bc : Nat) (w : World) (hc : Chk w B bc k n) (hch : i64ok ch) (hi : p.In w B) :
    Calls Try.prog 73 #[.pointer (some ⟨bc, 0, none⟩), .int .i64 ch, .int .u8 item, .agg p.cells] w (RetV (.bool (inputB k.vars k.chans.length ch item p)) w) := by
  obtain ⟨W0, hW0⟩ : ∃ W, w.alloc (.cells p.cells 101) = W := ⟨_, rfl⟩
  have b0 : Blk W0 w.heap.size 101 p.cells := by rw [← hW0]; exact Blk.new w _ _
  have K0 : Below w.heap.size w W0 := by rw [← hW0]; exact (Below.refl _ _).alloc (Nat.le_refl _) _
  have hc0 := hc.call K0
  have hi0 := hi.below (K0.mono hc.leB)
  have HK0 := Lib.hid K0
  have HC := Lib.hid (kChannel k n ch 1 item B bc W0 hc0 hch)
  have HP := Lib.hid (kPlace k n p item B bc W0 hc0 hi0)
  have HR := Lib.hid (show inputB k.vars k.chans.length ch item p = (channelB k.chans.length ch item 1 && placeB k.vars p item) from rfl)
  generalize inputB k.vars k.chans.length ch item p = R at *
  generalize placeB k.vars p item = pb at *
  generalize channelB k.chans.length ch item 1 = cb at *
  simp only [KPl.cells] at hW0 b0 HP ⊢
  have e0 := b0.cell 0
  have e1 := b0.cell 1
  simp at e0 e1
  clear b0 K0 hc0 hi0 hc hi
  cases cb with
  | false =>
    go_enter Try.func73, Try.ntmps73
    go_wp2_with (go_at_call 74; (with_reducible refine HC.out.mono ?_); rintro e1 w1 ⟨rfl, rfl⟩)
    go_ret
    exact ⟨by rw [HR.out]; rfl, HK0.out⟩
  | true =>
    go_enter Try.func73, Try.ntmps73
    go_wp2_with (first
      | (go_at_call 74; (with_reducible refine HC.out.mono ?_); rintro e1 w1 ⟨rfl, rfl⟩)
      | (go_at_call 71; (with_reducible refine HP.out.mono ?_); rintro e2 w2 ⟨rfl, hb2⟩))
    go_ret
    exact ⟨by rw [HR.out]; rfl, HK0.out.trans (hb2.mono HK0.out.size)⟩
end Go.Proofs.Ytekamebpjjkifaa
