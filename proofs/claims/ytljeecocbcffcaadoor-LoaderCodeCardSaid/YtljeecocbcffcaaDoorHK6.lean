/- Texts that belong together, joined: what each one holds is told ahead of it. -/
import Derived.Test.YtljeecocbcffcaaDoorHK5
import Derived.Test.YtljeecocbcffcaaDoorHK1
import Derived.Shelf.Strings.MapGrows
import Derived.Shelf.Strings.Shaped
set_option linter.unusedVariables false
set_option linter.unusedSimpArgs false
/- Len and Put of an instruction, and a line's encoding, walked. -/
namespace Go.Proofs.YtljeecocbcffcaaDoor
open Go.RowKit Go.Maps Go.WideMaps

theorem _root_.Go.World.ownsRow.weak {w : World} {base base' e size n : Nat} {v : Value} {xs : List Value} (h : w.ownsRow base e size v n xs) (hb : base' ≤ base) : w.ownsRow base' e size v n xs := by
  refine ⟨h.1, ?_⟩
  rcases h.2 with hn | ⟨g, cap, cur, e1, hb', rest⟩
  · exact .inl hn
  · exact .inr ⟨g, cap, cur, e1, by omega, rest⟩
theorem RetRow.cell {T size n : Nat} {xs : List Value} {w : World} {e : Ending} {w' : World} (h : RetRow T size n xs w e w') : ∃ A c, e = .returned (.slice A n c) ∧ w'.ownsRow w.heap.size T size (.slice A n c) n xs ∧ Below w.heap.size w w' ∧ n ≤ c := by
  obtain ⟨v, rfl, ho, hb⟩ := h
  rcases ho.2 with ⟨rfl, hz⟩ | ⟨g, cap, cur, rfl, hrest⟩
  · have hn : n = 0 := by rcases ho.2 with ⟨_, h⟩ | ⟨g, cap, cur, h, _⟩
                          · exact h
                          · cases h
    subst hn
    exact ⟨none, 0, rfl, ho, hb, Nat.le_refl _⟩
  · exact ⟨_, cap, rfl, ho, hb, hrest.2.2.1⟩
set_option maxRecDepth 100000 in
set_option maxHeartbeats 2000000 in
theorem cLen (fn : Nat) (v : Int) (hv : is32 v) (w : World) : Calls Tryd.prog 79 #[.agg #[.int .u8 fn, .int .i32 v]] w (RetV (.int .i64 (if codeB fn then (lenV v : Int) else 0)) w) := by
  have k0 : Below w.heap.size w (w.alloc (.cells #[.int .u8 fn, .int .i32 v] 59)) := (Below.refl _ _).alloc (Nat.le_refl _) _
  have b0 := Blk.new w 59 #[.int .u8 fn, .int .i32 v]
  obtain ⟨w0, hw0⟩ : ∃ w0, w.alloc (.cells #[.int .u8 fn, .int .i32 v] 59) = w0 := ⟨_, rfl⟩
  rw [hw0] at k0 b0
  have HV := Lib.hid (cValid fn v w0)
  have h1 : codeB fn = true → fn ≤ 15 := fun h => by simp [codeB] at h; omega
  have HP := Lib.hid (fun (h : codeB fn = true) (w : World) => (cPut fn v w (h1 h) hv))
  have hl := lenV_le hv
  clear h1 hv
  generalize hres : (if codeB fn = true then (lenV v : Int) else 0) = res
  have HRES := Lib.hid hres
  clear hres
  have c00 := b0.cell 0
  have c01 := b0.cell 1
  simp at c00 c01
  go_enter Tryd.func79, Tryd.ntmps79
  go_upto_region 1 with (fail)
  cases hc : codeB fn with
  | false =>
    rw [hc] at HV
    clear HP
    go_wp2_with (go_at_call 80; refine HV.out.mono ?_; rintro e w1 ⟨rfl, hb1⟩)
    refine bodyPost_ret (v := .int .i64 0) (by simp [results, Tryd.results79, go_sem]) rfl ⟨by rw [← HRES.out, hc]; rfl, k0.trans (hb1.mono k0.size)⟩
  | true =>
    rw [hc] at HV
    have HP2 := Lib.hid (fun w => HP.out hc w)
    clear HP
    go_wp2_with (first
      | (go_at_call 80; refine HV.out.mono ?_; rintro e w1 ⟨rfl, hb1⟩
         have k1 := k0.trans (hb1.mono k0.size)
         have b1 := b0.call hb1
         have c10 := b1.cell 0
         have c11 := b1.cell 1
         simp at c10 c11)
      | (go_at_call 81; refine (HP2.out _).mono ?_; intro e w2 hret; obtain ⟨A2, c2, rfl, hown2, hb2, hle2⟩ := hret.cell; have k2 := k1.trans (hb2.mono k1.size)))
    refine bodyPost_ret (v := .int .i64 (lenV v)) (by simp [results, Tryd.results79, go_sem]) rfl ⟨by rw [← HRES.out, hc]; rfl, k2⟩
/-- What Put leaves of a valid instruction. -/
def RetP (fn : Nat) (v : Int) (w : World) (e : Ending) (w' : World) : Prop :=
  ∃ A c, e = .returned (.tuple #[.slice A (lenV v) c, .int .i64 0]) ∧ w'.ownsRow w.heap.size 5 1 (.slice A (lenV v) c) (lenV v) (bcells (encI fn v)) ∧ Below w.heap.size w w' ∧ lenV v ≤ c
set_option maxRecDepth 100000 in
set_option maxHeartbeats 2000000 in
theorem cPutI (fn : Nat) (v : Int) (hv : is32 v) (hc : codeB fn = true) (w : World) : Calls Tryd.prog 61 #[.agg #[.int .u8 fn, .int .i32 v]] w (RetP fn v w) := by
  have k0 : Below w.heap.size w (w.alloc (.cells #[.int .u8 fn, .int .i32 v] 59)) := (Below.refl _ _).alloc (Nat.le_refl _) _
  have b0 := Blk.new w 59 #[.int .u8 fn, .int .i32 v]
  obtain ⟨w0, hw0⟩ : ∃ w0, w.alloc (.cells #[.int .u8 fn, .int .i32 v] 59) = w0 := ⟨_, rfl⟩
  rw [hw0] at k0 b0
  have HV := Lib.hid (cValid fn v w0)
  rw [hc] at HV
  have h1 : fn ≤ 15 := by simp [codeB] at hc; omega
  have HP2 := Lib.hid (fun w => (cPut fn v w h1 hv))
  clear hv hc
  have c00 := b0.cell 0
  have c01 := b0.cell 1
  simp at c00 c01
  go_enter Tryd.func61, Tryd.ntmps61
  go_wp2_with (first
      | (go_at_call 80; refine HV.out.mono ?_; rintro e w1 ⟨rfl, hb1⟩
         have k1 := k0.trans (hb1.mono k0.size)
         have b1 := b0.call hb1
         have c10 := b1.cell 0
         have c11 := b1.cell 1
         simp at c10 c11)
      | (go_at_call 81; refine (HP2.out _).mono ?_; intro e w2 hret; obtain ⟨A2, c2, rfl, hown2, hb2, hle2⟩ := hret.cell; have k2 := k1.trans (hb2.mono k1.size)))
  go_ret2
  exact ⟨A2, c2, rfl, (World.ownsRow.weak hown2 k1.size), k2, hle2⟩
set_option maxRecDepth 100000 in
set_option maxHeartbeats 2000000 in
theorem pEncoded (x : LineL) (v : Int) (hv : is32 v) (hc : codeB x.fn = true) (w : World) : Calls Tryd.prog 40 #[.agg (lineC x), .int .i32 v] w (RetRow 5 1 (lenV v) (bcells (encI x.fn v)) w) := by
  have k0 : Below w.heap.size w (w.alloc (.cells (lineC x) 27)) := (Below.refl _ _).alloc (Nat.le_refl _) _
  have b0 := Blk.new w 27 (lineC x)
  have HP2 := Lib.hid (fun w => (cPutI x.fn v hv hc w))
  simp only [lineC] at b0 k0 ⊢
  clear hv hc
  have c00 := b0.cell 0
  have c01 := b0.cell 1
  have c02 := b0.cell 2
  have c03 := b0.cell 3
  have c04 := b0.cell 4
  simp at c00 c01 c02 c03 c04
  go_enter Tryd.func40, Tryd.ntmps40
  go_wp2_with (go_at_call 61; refine (HP2.out _).mono ?_; rintro e w2 ⟨A2, c2, rfl, hown2, hb2, hle2⟩; have k2 := k0.trans (hb2.mono k0.size))
  go_ret
  exact RetRow.mk hown2 k0.size k2
end Go.Proofs.YtljeecocbcffcaaDoor

/- addresses, walked. -/
namespace Go.Proofs.YtljeecocbcffcaaDoor
open Go.RowKit Go.Maps Go.WideMaps

theorem valid_code {x : LineL} (h : validB x = true) : codeB x.fn = true := by
  simp only [validB, Bool.and_eq_true] at h
  obtain ⟨-, h⟩ := h
  by_cases ht : x.target.isEmpty = true
  · rw [if_pos ht] at h
    simp only [Bool.and_eq_true] at h
    obtain ⟨r, hr⟩ := Option.isSome_iff_exists.1 h.2
    obtain ⟨hm, hc⟩ := findI_some hr
    have hno : ∀ r ∈ tabF, r.fn ≤ 15 ∧ r.fn ≠ 2 ∧ r.fn ≠ 6 := by decide +kernel
    rcases hc with ⟨h15, -, -⟩ | ⟨h15, hf, -⟩
    · have : x.fn = 15 := by omega
      simp [codeB, this]
    · rcases List.mem_append.1 hm with hm | hm
      · obtain ⟨a, b, c⟩ := hno r hm
        have : r.fn = x.fn := by omega
        rw [this] at a b c
        simp [codeB, a, b, c]
      · have := (tabO_ok r hm).1
        omega
  · rw [if_neg ht] at h
    simp only [Bool.and_eq_true, decide_eq_true_eq] at h
    obtain ⟨⟨⟨-, h1⟩, h2⟩, h3⟩ := h
    simp only [codeB, h2, h3, Bool.and_true, decide_eq_true_eq]
    omega
theorem check_valid {ls : List LineL} (h : checkE ls = 0) {k : Nat} {x : LineL} (hx : ls[k]? = some x) : validB x = true := by
  unfold checkE at h
  cases ha : ls.all validB with
  | false => rw [ha] at h; simp at h
  | true => exact List.all_eq_true.1 ha _ (List.mem_of_getElem? hx)
theorem ncells_set (l : List Nat) (i x : Nat) : (ncells l).toArray.setIfInBounds i (.int .i64 (x : Int)) = (ncells (l.set i x)).toArray := by
  rw [List.setIfInBounds_toArray, ncells, ncells, List.map_set]
theorem made_nats (n : Nat) : madeCells (Value.int .i64 0).cells n = (ncells (zeros n)).toArray := by
  have h : madeCells (Value.int .i64 0).cells n = Array.replicate n (Value.int .i64 0) := by
    have e : (Value.int .i64 0).cells = #[.int .i64 0] := rfl
    rw [e]
    refine Array.ext (by simp [madeCells]) fun i h1 h2 => ?_
    simp [madeCells, Nat.mod_one]
  rw [h, zeros, ncells, List.map_replicate]
  simp
theorem int_info : (Tryd.prog.info? 3).map (fun i => (i.zero, i.size, i.bytes)) = some (some (.int .i64 0), 1, 8) := by kernel_rfl
theorem S5.set {B : Nat} {w0 w : World} (h : S5 B w0 w) (hB : B ≤ w0.heap.size) {p : Addr} (hp : w0.heap.size ≤ p.block) (u : Value) : S5 B w0 (w.setCell p u) := by
  have k1 : Below w0.heap.size w0 (w.setCell p u) := h.k.setCell hp u
  have k2 : Below B w (w.setCell p u) := (Below.refl B w).setCell (by omega) u
  exact ⟨h.l.on k2, by have := h.b; simpa using this, k1⟩
theorem Reads.of_blk {w : World} {g n : Nat} {t : TypeId} {xs : List Value} (h : Blk w g t xs.toArray) (hl : xs.length = n) : Reads w w.heap.size 1 (some ⟨g, 0, none⟩) n xs :=
  ⟨by omega, fun _ => ⟨_, rfl, h.lt, fun j u hu => by
    have hadd : (⟨g, 0, none⟩ : Addr).add j = ⟨g, j, none⟩ := by unfold Addr.add; split <;> simp_all
    rw [hadd, h.cell j]; simpa using hu⟩⟩
theorem ncell_at {w : World} {g : Nat} {t : TypeId} {l : List Nat} (h : Blk w g t (ncells l).toArray) {k x : Nat} (hx : l[k]? = some x) : w.cell? ⟨g, k, none⟩ = some (.int .i64 (x : Int)) := by
  rw [h.cell k]; simpa using ncells_get hx
/-- How far the addresses may still grow. -/
def roomA (g n : Nat) (w : World) : Nat := 8 * n + 1 - ((w.cell? ⟨g, n, none⟩).elim 0 fun v => (intOf v).toNat)
theorem roomA_eq {w : World} {g n : Nat} {t : TypeId} {l : List Nat} (h : Blk w g t (ncells (adrs l n)).toArray) : roomA g n w = 8 * n + 1 - adr l n := by
  rw [roomA, ncell_at h (adrs_get l (Nat.le_refl n))]
  simp [intOf]
theorem val_is32 {os : List Opd} (hf : Fit os) {L : List Nat} (h : ∀ i, L.getD i 0 ≤ 8) {i : Nat} {o : Opd} (ho : os[i]? = some o) : is32 (valO L o) := by
  have h1 := hf.2 o (List.mem_of_getElem? ho)
  cases o with
  | inl v => exact h1
  | inr p =>
    obtain ⟨t, f⟩ := p
    simp only at h1
    have a := adr_le h t
    have b := adr_le h f
    have c := hf.1
    unfold is32
    simp only [valO]
    omega
theorem S5.drew {B : Nat} {w0 w : World} (h : S5 B w0 w) : S5 B w0 w.drew := h.call (Below.refl _ _).drew
def flagN : Value → Nat
  | .bool true => 1
  | _ => 0
theorem fix8 {os : List Opd} (hf : Fit os) {l : List Nat} (h : LE l (fixL os)) (i : Nat) : l.getD i 0 ≤ 8 := Nat.le_trans (h.2 i) ((fixL_fix hf).2.2 i)
def RetAt (ls : List LineL) (w : World) (e : Ending) (w' : World) : Prop :=
  ∃ g, e = .returned (.slice (some ⟨g, 0, none⟩) (ls.length + 1 : Nat) (ls.length + 1)) ∧ Blk w' g 3 (ncells (adrs (fixL (opds ls)) ls.length)).toArray ∧ w.heap.size ≤ g ∧ Below w.heap.size w w'
set_option maxRecDepth 100000 in
set_option maxHeartbeats 4000000 in
theorem pAddr (ls : List LineL) (hok : ∀ x ∈ ls, LOk x) (hv : checkE ls = 0) (hn : ls.length ≤ 4096) (hd : Dist ls) (A : Option Addr) (c b q B : Nat) (w : World) (hr : Reads w w.heap.size 5 A ls.length (linesL ls)) (hO : OwnI w b q (mapL ls)) (hL : Laid5 B w) (hB : B ≤ w.heap.size) :
    Calls Tryd.prog 60 #[.slice A (ls.length : Nat) c, .map (some b)] w (RetAt ls w) := by
  obtain ⟨i0, hi0, hz0, hz1, hz2⟩ := info_parts int_info
  have hfit : Fit (opds ls) := opds_fit hn fun x hx => (hok x hx).arg
  obtain ⟨n, hnn⟩ : ∃ n, ls.length = n := ⟨_, rfl⟩
  have hol := opds_len ls
  rw [hnn] at hol
  have mk1 := run_make_rowN (P := Tryd.prog) 28 3 i0 _ Tryd.underlying28 hi0 hz0 .i64 .i64 (n + 1) (n + 1) (Nat.le_refl _) (by rw [hz2]; omega) (by omega)
  have mk2 := run_make_rowN (P := Tryd.prog) 28 3 i0 _ Tryd.underlying28 hi0 hz0 .i64 .i64 n n (Nat.le_refl _) (by rw [hz2]; omega) (by omega)
  rw [hz1, Nat.mul_one, made_nats] at mk1 mk2
  have eN : ((n + 1 : Nat) : Int) = (n : Int) + 1 := by omega
  rw [eN] at mk1
  have S0 := S5.start hL hB
  have k1 : Below w.heap.size w (w.alloc (.cells (ncells (zeros (n + 1))).toArray 3)) := (Below.refl _ _).alloc (Nat.le_refl _) _
  have S1 := (S0.alloc (.cells (ncells (zeros (n + 1))).toArray 3)).alloc (.cells (ncells (zeros n)).toArray 3)
  have O1 := (hO.alloc (.cells (ncells (zeros (n + 1))).toArray 3)).alloc (.cells (ncells (zeros n)).toArray 3)
  have g1 := (Blk.new w 3 (ncells (zeros (n + 1))).toArray).alloc (.cells (ncells (zeros n)).toArray 3)
  have g2 := Blk.new (w.alloc (.cells (ncells (zeros (n + 1))).toArray 3)) 3 (ncells (zeros n)).toArray
  have hsz : (w.alloc (.cells (ncells (zeros (n + 1))).toArray 3)).heap.size = w.heap.size + 1 := by simp
  rw [hsz] at g2
  have hlb := hO.lt
  obtain ⟨W, hW⟩ : ∃ W, (w.alloc (.cells (ncells (zeros (n + 1))).toArray 3)).alloc (.cells (ncells (zeros n)).toArray 3) = W := ⟨_, rfl⟩
  rw [hW] at S1 O1 g1 g2
  rw [← adrs_zeros] at g1
  have S := Lib.hid S1
  have HO := Lib.hid O1
  have G1 := Lib.hid g1
  have G2 := Lib.hid g2
  have HR := Lib.hid hr
  have HB := Lib.hid hB
  have HK := Lib.hid hok
  have HV := Lib.hid hv
  have HF := Lib.hid hfit
  have HOL := Lib.hid hol
  have HLE := Lib.hid (zeros_le hfit)
  rw [hol] at HLE
  have HNN := Lib.hid hnn
  rw [hnn] at HR hn
  rw [hnn]
  clear S0 S1 O1 g1 g2 hr hok hv hfit hol hL hB hO k1 eN hnn
  go_enter Tryd.func60, Tryd.ntmps60
  go_upto_region 4 with (fail)
  go_loopw [7] (fun a wr => ∃ (L : List Nat) (ag : Bool), a = .bool ag ∧ Hid (LE L (fixL (opds ls))) ∧ Hid (ag = false → L = fixL (opds ls)) ∧ Hid (S5 B w wr) ∧ Hid (OwnI wr b q (mapL ls)) ∧
      Hid (Blk wr w.heap.size 3 (ncells (adrs L n)).toArray) ∧ Hid (Blk wr (w.heap.size + 1) 3 (ncells L).toArray)) (fun a wr => roomA w.heap.size n wr + flagN a)
  case atStart => exact ⟨zeros n, true, rfl, HLE, Lib.hid (by simp), S, HO, G1, G2⟩
  case round =>
    clear S HO G1 G2 HLE hW hsz
    obtain ⟨L, ag, rfl, HLE, HAG, S, HO, G1, G2⟩ := hrel
    cases ag with
    | false =>
      have e := HAG.out rfl
      have g1 := G1.out
      rw [e] at g1
      go_wp2
      go_ret
      refine ⟨w.heap.size, by rw [HNN.out]; rfl, ?_, Nat.le_refl _, S.out.k⟩
      rw [HNN.out]; exact g1
    | true =>
      have hU : Hid (LE (upL (opds ls) L) (fixL (opds ls))) := Lib.hid (upL_le HF.out HLE.out)
      have hL1 : Hid (L.length = n) := Lib.hid (by rw [HLE.out.1, fixL_len HF.out, HOL.out])
      have hU1 : Hid ((upL (opds ls) L).length = L.length) := Lib.hid (by rw [upL_len (by rw [hL1.out, HOL.out]), hL1.out, HOL.out])
      obtain ⟨U, hUe⟩ : ∃ U, upL (opds ls) L = U := ⟨_, rfl⟩
      have HUE := Lib.hid hUe
      rw [hUe] at hU hU1
      have HRM := Lib.hid (roomA_eq G1.out)
      clear hUe
      go_wp2
      go_loopw [7, 23] (fun a p wr => ∃ i : Nat, i ≤ n ∧ p = .int .i64 i ∧ a = .bool (!stillB U L i) ∧ Hid (S5 B w wr) ∧ Hid (OwnI wr b q (mapL ls)) ∧
        Hid (Blk wr w.heap.size 3 (ncells (adrs L n)).toArray) ∧ Hid (Blk wr (w.heap.size + 1) 3 (ncells (mixL U L i)).toArray)) (fun _ p _ => n - (intOf p).toNat)
      case atStart => exact ⟨0, by omega, rfl, by rw [stillB_zero]; rfl, S, HO, G1, by rw [mixL_zero]; exact G2⟩
      case round =>
        clear S HO G1 G2
        obtain ⟨i, hi, rfl, rfl, S, HO, G1, G2⟩ := hrel
        by_cases hlt : i < n
        · have hltI : (i : Int) < n := by omega
          obtain ⟨bk, off, x, rfl, hbk, hx, c0, c1, c2, c3, c4⟩ := lines_at (HR.out.below S.out.k) hlt
          have hbs : bk < wr.heap.size := by have := S.out.k.size; omega
          have hxo := HK.out x (List.mem_of_getElem? hx)
          have hcb := valid_code (check_valid HV.out hx)
          have hop := opds_get hx
          have h8 := fix8 HF.out HLE.out
          have hv32 := val_is32 HF.out h8 hop
          obtain ⟨W, hWW⟩ : ∃ W, wr.alloc (.cells (lineC x) 27) = W := ⟨_, rfl⟩
          have S1 := S.out.alloc (.cells (lineC x) 27)
          have O1 := HO.out.alloc (.cells (lineC x) 27)
          have G11 := G1.out.alloc (.cells (lineC x) 27)
          have G21 := G2.out.alloc (.cells (lineC x) 27)
          have b0 := Blk.new wr 27 (lineC x)
          rw [hWW] at S1 O1 G11 G21 b0
          have HC := pOperand ls hx hxo (by rw [HNN.out]; exact hn) (b := b) (q := q) hd h8 (some ⟨w.heap.size, 0, none⟩) (n + 1) W.drew.heap.size W.drew O1 (Nat.le_refl _) (by rw [HNN.out]; exact Reads.of_blk (w := W.drew) G11 (by rw [ncells_len, adrs_len]))
          rw [HNN.out] at HC
          have HC := Lib.hid HC
          have hu := upL_get (os := opds ls) (l := L) (by rw [hL1.out, HOL.out]) hop
          rw [HUE.out] at hu
          have hli : L[i]? = some (L.getD i 0) := by
            have : i < L.length := by rw [hL1.out]; exact hlt
            rw [List.getD_eq_getElem?_getD, List.getElem?_eq_getElem this]; rfl
          have HLen := Lib.hid (fun w => cLen x.fn (valO L (opdL ls i x)) hv32 w)
          rw [hcb] at HLen
          simp only [if_true] at HLen
          generalize valO L (opdL ls i x) = v at *
          have hlv := lenV_le hv32
          generalize lenV v = nv at *
          have hl8 := h8 i
          generalize L.getD i 0 = li at *
          simp only [lineC] at hWW b0 HC
          have HU := Lib.hid hu
          have HLI := Lib.hid hli
          have HS1 := Lib.hid S1
          have HO1 := Lib.hid O1
          have HG1 := Lib.hid G11
          have HG2 := Lib.hid G21
          clear hu hli S1 O1 G11 G21 hx hxo hcb hop h8 hv32 S HO G1 G2
          go_upto_region 9 with (fail)
          have hbW := b0.lt
          have d00 := b0.cell 0
          have d01 := b0.cell 1
          have d02 := b0.cell 2
          have d03 := b0.cell 3
          have d04 := b0.cell 4
          simp at d00 d01 d02 d03 d04
          go_region_held3 (fun w' => W.heap.size ≤ w'.heap.size ∧ ∀ b o, b < W.heap.size → w'.cell? ⟨b, o, none⟩ = W.cell? ⟨b, o, none⟩) (first | exact SBel.drew | exact SBel.drew.below hb1 | exact (SBel.drew.below hb1).below hb2) (first
            | (go_at_call 41; (with_reducible refine HC.out.mono ?_); rintro e w1 ⟨rfl, hb1⟩)
            | (go_at_call 79; refine (HLen.out _).mono ?_; rintro e w2 ⟨rfl, hb2⟩))
          have HS2 := Lib.hid ((HS1.out.drew.call hb1).call hb2)
          have HO2 := Lib.hid (own_call (own_call HO1.out.drew hb1) hb2)
          have HG12 := Lib.hid ((HG1.out.drew.call hb1).call hb2)
          have HG22 := Lib.hid ((HG2.out.drew.call hb1).call hb2)
          clear HS1 HO1 HG1 HG2 HC HLen
          have cl := ncell_at HG22.out (k := i) (by rw [mixL_at hU1.out (by rw [hL1.out]; exact hlt)]; exact HLI.out)
          clear hb1 hb2
          by_cases hgt : li < nv
          · have hgtI : (li : Int) < nv := by omega
            have cf := HG22.out.frozen i
            have hmax : U[i]? = some nv := by rw [HU.out, Nat.max_eq_right (by omega)]
            have HMX := Lib.hid hmax
            clear hmax
            go_wp2
            go_roundw
            case rel =>
              refine ⟨i + 1, by omega, by go_num, by rw [stillB_grown hU1.out HMX.out HLI.out (by omega)]; rfl, Lib.hid (HS2.out.set HB.out (by simp) _), Lib.hid (HO2.out.setCell (by simp; omega) _), Lib.hid (HG12.out.far (by simp) _), Lib.hid ?_⟩
              rw [← mixL_set hU1.out HMX.out, ← ncells_set]
              exact HG22.out.set_ _ _
            case measure => simp [intOf]; omega
          · have hgtI : ¬ (li : Int) < nv := by omega
            go_wp2
            go_roundw
            case rel => exact ⟨i + 1, by omega, by go_num, by rw [stillB_keep (by rw [HU.out, Nat.max_eq_left (by omega)]) HLI.out], HS2, HO2, HG12, by rw [mixL_keep hU1.out (by rw [HU.out, Nat.max_eq_left (by omega)]) HLI.out]; exact HG22⟩
            case measure => simp [intOf]; omega
        · have hltI : ¬ (i : Int) < n := by omega
          obtain rfl : n = i := by omega
          have hst : stillB U L n = decide (U = L) := by have := stillB_end hU1.out; rwa [hL1.out] at this
          rw [hst]
          have hmx : mixL U L n = U := by have := mixL_end hU1.out; rwa [hL1.out] at this
          rw [hmx] at G2
          clear hst hmx hlt hltI hi
          rw [← mixA_zero L U n] at G1
          have hUn : Hid (U.length = n) := Lib.hid (by rw [hU1.out, hL1.out])
          have h8 := Lib.hid (fix8 HF.out hU.out)
          have ha8 := Lib.hid (fix_adr HF.out hU.out)
          obtain ⟨f0, hf0⟩ : ∃ f0, (!decide (U = L)) = f0 := ⟨_, rfl⟩
          have HF0 := Lib.hid hf0
          rw [hf0]
          clear hf0
          go_wp2
          go_loopw [50] (fun p wr => ∃ j : Nat, j ≤ n ∧ p = .int .i64 j ∧ Hid (S5 B w wr) ∧ Hid (OwnI wr b q (mapL ls)) ∧
            Hid (Blk wr w.heap.size 3 (ncells (mixL (adrs U n) (adrs L n) (j + 1))).toArray) ∧ Hid (Blk wr (w.heap.size + 1) 3 (ncells U).toArray)) (fun p _ => n - (intOf p).toNat)
          case atStart => exact ⟨0, by omega, rfl, S, HO, G1, G2⟩
          case round =>
            clear S HO G1 G2
            obtain ⟨j, hj, rfl, S, HO, G1, G2⟩ := hrel
            by_cases hjt : j < n
            · have hjtI : (j : Int) < n := by omega
              have hju : U[j]? = some (U.getD j 0) := by
                have : j < U.length := by rw [hUn.out]; exact hjt
                rw [List.getD_eq_getElem?_getD, List.getElem?_eq_getElem this]; rfl
              have c1 := ncell_at G2.out hju
              have c2 := ncell_at G1.out (mixA_at (l := L) (u := U) hjt)
              have c3 := ncell_at G1.out (k := j + 1) (x := adr L (j + 1)) (by rw [mixL_at (by rw [adrs_len, adrs_len]) (by rw [adrs_len]; omega), adrs_get _ (by omega)])
              have cf := G1.out.frozen (j + 1)
              have hset := Lib.hid (mixA_set (l := L) (u := U) hjt)
              have b1 := h8.out j
              have b2 := ha8.out j
              have w1 : IntKind.i64.wrap ((j : Int) + 1) = (j : Int) + 1 := IntWalk.i64_in _ (by omega)
              have hsum : Hid (((adr U j : Nat) : Int) + ((U.getD j 0 : Nat) : Int) = ((adr U j + U.getD j 0 : Nat) : Int)) := Lib.hid (by omega)
              generalize hx1 : U.getD j 0 = nj at *
              generalize hx2 : adr U j = aj at *
              clear hx1 hx2 hju
              go_wp2
              go_roundw
              case rel =>
                refine ⟨j + 1, by omega, by go_num, Lib.hid (S.out.set HB.out (by simp) _), Lib.hid (HO.out.setCell (by simp; omega) _), Lib.hid ?_, Lib.hid (G2.out.far (by simp) _)⟩
                rw [← hset.out, ← ncells_set, ← hsum.out]
                exact G1.out.set_ _ _
              case measure => simp [intOf]; omega
            · have hjtI : ¬ (j : Int) < n := by omega
              obtain rfl : n = j := by omega
              rw [mixA_end] at G1
              go_wp2
              go_roundw
              case rel =>
                refine ⟨U, f0, rfl, hU, Lib.hid (fun h => ?_), S, HO, G1, G2⟩
                rw [← HF0.out] at h
                have hul : U = L := by simpa using h
                have := upL_same HF.out HLE.out (by rw [HUE.out, hul])
                rw [hul]; exact this
              case measure =>
                rw [HRM.out, roomA_eq G1.out]
                have h1 := ha8.out n
                cases f0 with
                | false =>
                  have hul : U = L := by simpa using HF0.out
                  rw [hul]
                  show _ + 0 < _ + 1
                  omega
                | true =>
                  have hul : U ≠ L := by simpa using HF0.out
                  have h2 := upL_more HF.out HLE.out (by rw [HUE.out]; exact hul)
                  rw [HUE.out, HOL.out] at h2
                  show _ + 1 < _ + 1
                  omega
end Go.Proofs.YtljeecocbcffcaaDoor

/- layout and Lengths, walked. -/
namespace Go.Proofs.YtljeecocbcffcaaDoor
open Go.RowKit Go.Maps Go.WideMaps

def RetLay (ls : List LineL) (w : World) (e : Ending) (w' : World) : Prop :=
  Below w.heap.size w w' ∧ ((checkE ls = 0 ∧ ∃ b q g, e = .returned (.tuple #[.map (some b), .slice (some ⟨g, 0, none⟩) (ls.length + 1 : Nat) (ls.length + 1), .int .i64 0]) ∧ OwnI w' b q (mapL ls) ∧ Blk w' g 3 (ncells (adrs (fixL (opds ls)) ls.length)).toArray ∧ w.heap.size ≤ b ∧ w.heap.size ≤ g ∧ Dist ls) ∨
    (checkE ls ≠ 0 ∧ e = .returned (.tuple #[.map none, .slice none 0 0, .int .i64 (checkE ls)])))
set_option maxRecDepth 100000 in
set_option maxHeartbeats 4000000 in
theorem pLayout (ls : List LineL) (hok : ∀ x ∈ ls, LOk x) (hn : ls.length ≤ 4096) (A : Option Addr) (c B : Nat) (w : World) (hr : Reads w w.heap.size 5 A ls.length (linesL ls)) (hL : Laid5 B w) (hB : B ≤ w.heap.size) :
    Calls Tryd.prog 39 #[.slice A (ls.length : Nat) c] w (RetLay ls w) := by
  have HC := Lib.hid (pCheck ls hok A ls.length c (by omega) B w hr hL hB)
  have HA := Lib.hid (fun (hv : checkE ls = 0) (hd : Dist ls) b q w1 (hr : Reads w1 w1.heap.size 5 A ls.length (linesL ls)) (hO : OwnI w1 b q (mapL ls)) (hL : Laid5 B w1) (hB : B ≤ w1.heap.size) => pAddr ls hok hv hn hd A c b q B w1 hr hO hL hB)
  have S := S5.start hL hB
  have h8 : checkE ls = 0 → adr (fixL (opds ls)) ls.length ≤ 8 * ls.length := fun _ => fix_adr (opds_fit hn fun x hx => (hok x hx).arg) (LE.refl _) _
  have hg := adrs_get (fixL (opds ls)) (Nat.le_refl ls.length)
  have HR := Lib.hid hr
  have HS := Lib.hid S
  clear hok hL hB S hr
  unfold RetLay
  unfold RetAt at HA
  generalize adr (fixL (opds ls)) ls.length = top at *
  generalize ls.length = n at *
  generalize adrs (fixL (opds ls)) n = AL at *
  go_enter Tryd.func39, Tryd.ntmps39
  go_upto_region 1 with (fail)
  by_cases he : checkE ls = 0
  · have HC0 : Hid (Calls Tryd.prog 59 #[.slice A n c] w fun e w' => Below w.heap.size w w' ∧ ∃ b q, e = .returned (.tuple #[.map (some b), .int .i64 0]) ∧ OwnI w' b q (mapL ls) ∧ w.heap.size ≤ b ∧ Dist ls) :=
      Lib.hid (HC.out.mono fun e w' h => ⟨h.1, by
        rcases h.2 with h | h
        · exact h.2
        · exact absurd he h.1⟩)
    have h8' := h8 he
    clear HC h8
    go_wp2_with (first
      | (go_at_call 59; refine HC0.out.mono ?_; rintro e w1 ⟨hb1, b, q, rfl, hO1, hle1, hd⟩
         have HO1 := Lib.hid hO1
         have HD := Lib.hid hd
         have HB1 := Lib.hid hb1
         have HS1 := Lib.hid (HS.out.call hb1)
         have HR1 := Lib.hid ((HR.out.below hb1).more hb1.size)
         clear hO1 hd)
      | (go_at_call 60; refine (HA.out he HD.out b q w1 HR1.out HO1.out HS1.out.l HS1.out.b).mono ?_; rintro e w2 ⟨g, rfl, hg2, hle2, hb2⟩
         have hgc := ncell_at hg2 hg
         have hgl := hg2.lt))
    go_ret3
    exact ⟨(HS1.out.call hb2).k, .inl ⟨he, b, q, g, rfl, own_call HO1.out hb2, hg2, hle1, Nat.le_trans HB1.out.size hle2, HD.out⟩⟩
  · have HC0 : Hid (Calls Tryd.prog 59 #[.slice A n c] w fun e w' => Below w.heap.size w w' ∧ e = .returned (.tuple #[.map none, .int .i64 (checkE ls)])) :=
      Lib.hid (HC.out.mono fun e w' h => ⟨h.1, by
        rcases h.2 with h | h
        · exact absurd h.1 he
        · exact h.2⟩)
    have hne : (checkE ls != 0) = true := by simpa using he
    have HE := Lib.hid he
    clear HC h8 HA he
    go_wp2_with (go_at_call 59; refine HC0.out.mono ?_; rintro e w1 ⟨hb1, rfl⟩)
    go_ret3
    exact ⟨hb1, .inr ⟨HE.out, rfl⟩⟩
end Go.Proofs.YtljeecocbcffcaaDoor

/- Lengths, walked. -/
namespace Go.Proofs.YtljeecocbcffcaaDoor
open Go.RowKit Go.Maps Go.WideMaps

def RetLens (ls : List LineL) (w : World) (e : Ending) (w' : World) : Prop :=
  Below w.heap.size w w' ∧ ((checkE ls = 0 ∧ ∃ g, e = .returned (.tuple #[.slice (some ⟨g, 0, none⟩) ls.length ls.length, .int .i64 0]) ∧ Blk w' g 3 (ncells (fixL (opds ls))).toArray ∧ w.heap.size ≤ g) ∨
    (checkE ls ≠ 0 ∧ e = .returned (.tuple #[.slice none 0 0, .int .i64 (checkE ls)])))
theorem RetLay.zero {ls : List LineL} {w w' : World} {e : Ending} (he : checkE ls = 0) (h : RetLay ls w e w') :
    Below w.heap.size w w' ∧ ∃ b q g, e = .returned (.tuple #[.map (some b), .slice (some ⟨g, 0, none⟩) (ls.length + 1 : Nat) (ls.length + 1), .int .i64 0]) ∧ OwnI w' b q (mapL ls) ∧ Blk w' g 3 (ncells (adrs (fixL (opds ls)) ls.length)).toArray ∧ w.heap.size ≤ b ∧ w.heap.size ≤ g ∧ Dist ls := by
  refine ⟨h.1, ?_⟩
  rcases h.2 with h | h
  · exact h.2
  · exact absurd he h.1
theorem RetLay.not {ls : List LineL} {w w' : World} {e : Ending} (he : checkE ls ≠ 0) (h : RetLay ls w e w') :
    Below w.heap.size w w' ∧ e = .returned (.tuple #[.map none, .slice none 0 0, .int .i64 (checkE ls)]) := by
  refine ⟨h.1, ?_⟩
  rcases h.2 with h | h
  · exact absurd h.1 he
  · exact h.2
set_option maxRecDepth 100000 in
set_option maxHeartbeats 4000000 in
theorem pLengths (ls : List LineL) (hok : ∀ x ∈ ls, LOk x) (hn : ls.length ≤ 4096) (A : Option Addr) (c B : Nat) (w : World) (hr : Reads w w.heap.size 5 A ls.length (linesL ls)) (hL : Laid5 B w) (hB : B ≤ w.heap.size) :
    Calls Tryd.prog 46 #[.slice A (ls.length : Nat) c] w (RetLens ls w) := by
  have HC := Lib.hid (pLayout ls hok hn A c B w hr hL hB)
  have hfit : Fit (opds ls) := opds_fit hn fun x hx => (hok x hx).arg
  have hFl : (fixL (opds ls)).length = ls.length := by rw [fixL_len hfit, opds_len]
  have h8 := fix8 hfit (LE.refl _)
  have ha8 := fix_adr hfit (LE.refl _)
  clear hok hL hr hfit
  unfold RetLens
  by_cases he : checkE ls = 0
  · have HC0 := Lib.hid (HC.out.mono fun e w' h => h.zero he)
    clear HC
    generalize fixL (opds ls) = F at *
    generalize ls.length = n at *
    obtain ⟨i0, hi0, hz0, hz1, hz2⟩ := info_parts int_info
    have mk2 := run_make_rowN (P := Tryd.prog) 28 3 i0 _ Tryd.underlying28 hi0 hz0 .i64 .i64 n n (Nat.le_refl _) (by rw [hz2]; omega) (by omega)
    rw [hz1, Nat.mul_one, made_nats] at mk2
    have H8 := Lib.hid h8
    have HA8 := Lib.hid ha8
    have HFL := Lib.hid hFl
    have HE := Lib.hid he
    clear h8 ha8 hFl he
    go_enter Tryd.func46, Tryd.ntmps46
    go_wp2_with (go_at_call 39; refine HC0.out.mono ?_; rintro e w1 ⟨hb1, b, q, g, rfl, hO1, hg1, hle1, hle2, hd⟩
                 have G1 := Lib.hid (hg1.alloc (.cells (ncells (zeros n)).toArray 3))
                 have G2 := Lib.hid (Blk.new w1 3 (ncells (zeros n)).toArray)
                 have K1 := Lib.hid (hb1.alloc hb1.size (.cells (ncells (zeros n)).toArray 3))
                 have HB1 := Lib.hid hb1.size
                 have hgl := hg1.lt
                 clear hO1 hg1 hd hb1)
    generalize hgz : w1.heap.size = gz at *
    clear hgz
    go_loopw [23] (fun p wr => ∃ j : Nat, j ≤ n ∧ p = .int .i64 j ∧ Hid (Below w.heap.size w wr) ∧ Hid (Blk wr g 3 (ncells (adrs F n)).toArray) ∧ Hid (Blk wr gz 3 (ncells (mixL F (zeros n) j)).toArray)) (fun p _ => n - (intOf p).toNat)
    case atStart => exact ⟨0, by omega, rfl, K1, G1, by rw [mixL_zero]; exact G2⟩
    case round =>
      clear K1 G1 G2
      obtain ⟨j, hj, rfl, K1, G1, G2⟩ := hrel
      have hlz : F.length = (zeros n).length := by rw [HFL.out]; simp [zeros]
      have HLZ := Lib.hid hlz
      clear hlz
      by_cases hlt : j < n
      · have hltI : (j : Int) < n := by omega
        have hF : F[j]? = some (F.getD j 0) := by
          have : j < F.length := by rw [HFL.out]; exact hlt
          rw [List.getD_eq_getElem?_getD, List.getElem?_eq_getElem this]; rfl
        have c1 := ncell_at G1.out (adrs_get F (show j ≤ n by omega))
        have c2 := ncell_at G1.out (adrs_get F (show j + 1 ≤ n by omega))
        have c3 := ncell_at G2.out (k := j) (x := 0) (by rw [mixL_at HLZ.out (by simp [zeros]; exact hlt), zeros, List.getElem?_replicate, if_pos hlt])
        have cf := G2.out.frozen j
        have a1 := HA8.out j
        have a2 := H8.out j
        have w1' : IntKind.i64.wrap ((j : Int) + 1) = (j : Int) + 1 := IntWalk.i64_in _ (by omega)
        have hsub : ((adr F (j + 1) : Nat) : Int) - (adr F j : Nat) = (F.getD j 0 : Nat) := by rw [adr]; omega
        have hset := Lib.hid (mixL_set HLZ.out hF)
        have HSUB := Lib.hid hsub
        have a3 := HA8.out (j + 1)
        clear hF hsub
        generalize F.getD j 0 = nj at *
        generalize adr F (j + 1) = aj1 at *
        generalize adr F j = aj at *
        go_wp2
        refine wp_region_quiet_tail 13 (by kernel_rfl) (by kernel_rfl) ?_
        simp only [List.take_succ_cons, List.take_zero, List.drop_succ_cons, List.drop_zero]
        repeat go_big_quiet_step (fail)
        refine wpQuiet_nil ?_
        go_wp2
        go_roundw
        case rel =>
          refine ⟨j + 1, by omega, by go_num, Lib.hid (K1.out.setCell HB1.out _).drew, Lib.hid (G1.out.far (by simp; omega) _).drew, Lib.hid ?_⟩
          rw [← hset.out, ← ncells_set, ← HSUB.out]
          exact (G2.out.set_ _ _).drew
        case measure => simp [intOf]; omega
      · have hltI : ¬ (j : Int) < n := by omega
        obtain rfl : n = j := by omega
        have hmx : mixL F (zeros n) n = F := by have := mixL_end HLZ.out; rwa [show (zeros n).length = n by simp [zeros]] at this
        rw [hmx] at G2
        clear hmx
        go_wp2
        go_ret2
        exact ⟨K1.out, .inl ⟨HE.out, gz, rfl, G2.out, HB1.out⟩⟩
  · have HC0 := Lib.hid (HC.out.mono fun e w' h => h.not he)
    have hne : (checkE ls != 0) = true := by simpa using he
    clear HC
    go_enter Tryd.func46, Tryd.ntmps46
    go_wp2_with (go_at_call 39; refine HC0.out.mono ?_; rintro e w1 ⟨hb1, rfl⟩)
    go_ret2
    exact ⟨hb1, .inr ⟨he, rfl⟩⟩
end Go.Proofs.YtljeecocbcffcaaDoor

/- Assemble, walked. -/
namespace Go.Proofs.YtljeecocbcffcaaDoor
open Go.RowKit Go.Maps Go.WideMaps

def codeK (F : List Nat) (ls : List LineL) (k : Nat) : List UInt8 := (ls.zipIdx.take k).flatMap fun p => encI p.1.fn (valO F (opdL ls p.2 p.1))
theorem codeK_zero (F : List Nat) (ls : List LineL) : codeK F ls 0 = [] := rfl
theorem codeK_succ {F : List Nat} {ls : List LineL} {k : Nat} {x : LineL} (h : ls[k]? = some x) : codeK F ls (k + 1) = codeK F ls k ++ encI x.fn (valO F (opdL ls k x)) := by
  unfold codeK
  rw [List.take_add_one]
  simp [List.getElem?_zipIdx, h]
theorem codeK_end (ls : List LineL) : codeK (fixL (opds ls)) ls ls.length = codeL ls := by
  unfold codeK codeL
  rw [List.take_of_length_le (by simp)]
theorem codeK_len {F : List Nat} {ls : List LineL} (h : ∀ (k : Nat) (x : LineL), ls[k]? = some x → is32 (valO F (opdL ls k x))) : ∀ k, (codeK F ls k).length ≤ 8 * k
  | 0 => by simp [codeK_zero]
  | k + 1 => by
    have ih := codeK_len h k
    cases hx : ls[k]? with
    | some x =>
      rw [codeK_succ hx, List.length_append, encI_len]
      have := lenV_le (h k x hx)
      omega
    | none =>
      have : codeK F ls (k + 1) = codeK F ls k := by
        unfold codeK
        rw [List.take_add_one]
        simp [List.getElem?_zipIdx, hx]
      rw [this]; omega
theorem own_form {w : World} {base e size n : Nat} {v : Value} {xs : List Value} (h : w.ownsRow base e size v n xs) : ∃ A c, v = .slice A n c := by
  rcases h.2 with ⟨rfl, rfl⟩ | ⟨g, cap, cur, rfl, _⟩
  · exact ⟨none, 0, rfl⟩
  · exact ⟨_, cap, rfl⟩
theorem own_map_ne {w : World} {base e size n b q : Nat} {v : Value} {xs : List Value} {D : DataW Unit} (h : w.ownsRow base e size v n xs) (hm : OwnI w b q D) : some b ≠ v.ownBlock := by
  rcases h.2 with ⟨rfl, _⟩ | ⟨g, cap, cur, rfl, _, hh, _⟩
  · simp [Value.ownBlock]
  · intro he
    have : b = g := by simpa [Value.ownBlock] using he
    subst this
    obtain ⟨es, clock, hb, -⟩ := hm
    rw [hb] at hh
    cases hh
theorem S5.grownR {B : Nat} {w0 w w1 : World} {v : Value} {e size n : Nat} {xs : List Value} (h : S5 B w0 w) (hown : w.ownsRow w0.heap.size e size v n xs) (hg : w.grownBy w1 v.ownBlock) (hB : B ≤ w0.heap.size) : S5 B w0 w1 := by
  have k1 : Below w0.heap.size w0 w1 := h.k.grown hg h.k.size (fun k e => (hown.lt k e).1)
  have k2 : Below B w w1 := (Below.refl B w).grown hg h.b (fun k e => Nat.le_trans hB (hown.lt k e).1)
  exact ⟨h.l.on k2, Nat.le_trans h.b hg.size, k1⟩
theorem cells5 {w : World} {g : Nat} {t : TypeId} {a b c d e : Value} (h : Blk w g t #[a, b, c, d, e]) :
    w.cell? ⟨g, 0, none⟩ = some a ∧ w.cell? ⟨g, 1, none⟩ = some b ∧ w.cell? ⟨g, 2, none⟩ = some c ∧ w.cell? ⟨g, 3, none⟩ = some d ∧ w.cell? ⟨g, 4, none⟩ = some e :=
  ⟨h.cell 0, h.cell 1, h.cell 2, h.cell 3, h.cell 4⟩
def RetAsm (ls : List LineL) (w : World) (e : Ending) (w' : World) : Prop :=
  Below w.heap.size w w' ∧ ((checkE ls = 0 ∧ ∃ A c g, e = .returned (.tuple #[.slice A (codeL ls).length c, .slice (some ⟨g, 0, none⟩) ls.length ls.length, .int .i64 0]) ∧ w'.ownsRow w.heap.size 5 1 (.slice A (codeL ls).length c) (codeL ls).length (bcells (codeL ls)) ∧
      Blk w' g 3 (ncells (adrs (fixL (opds ls)) ls.length)).toArray ∧ w.heap.size ≤ g) ∨
    (checkE ls ≠ 0 ∧ e = .returned (.tuple #[.slice none 0 0, .slice none 0 0, .int .i64 (checkE ls)])))
set_option maxRecDepth 100000 in
set_option maxHeartbeats 4000000 in
theorem pAssemble (ls : List LineL) (hok : ∀ x ∈ ls, LOk x) (hn : ls.length ≤ 4096) (A : Option Addr) (c B : Nat) (w : World) (hr : Reads w w.heap.size 5 A ls.length (linesL ls)) (hL : Laid5 B w) (hB : B ≤ w.heap.size) :
    Calls Tryd.prog 14 #[.slice A (ls.length : Nat) c] w (RetAsm ls w) := by
  have HC := Lib.hid (pLayout ls hok hn A c B w hr hL hB)
  have hfit : Fit (opds ls) := opds_fit hn fun x hx => (hok x hx).arg
  have h8 := fix8 hfit (LE.refl _)
  have hS := S5.start hL hB
  unfold RetAsm
  by_cases he : checkE ls = 0
  · have HC0 := Lib.hid (HC.out.mono fun e w' h => h.zero he)
    clear HC
    have hv32 : ∀ (k : Nat) (x : LineL), ls[k]? = some x → is32 (valO (fixL (opds ls)) (opdL ls k x)) := fun k x hx => val_is32 hfit h8 (opds_get hx)
    have hcl := codeK_len hv32
    have hend := codeK_end ls
    have HOP := Lib.hid (fun (k : Nat) (x : LineL) (hx : ls[k]? = some x) b q (hd : Dist ls) g w1 (hO : OwnI w1 b q (mapL ls)) (hg : Blk w1 g 3 (ncells (adrs (fixL (opds ls)) ls.length)).toArray) =>
      pOperand ls hx (hok x (List.mem_of_getElem? hx)) hn (b := b) (q := q) hd h8 (some ⟨g, 0, none⟩) (ls.length + 1) w1.heap.size w1 hO (Nat.le_refl _) (Reads.of_blk hg (by rw [ncells_len, adrs_len])))
    have HEN := Lib.hid (fun (k : Nat) (x : LineL) (hx : ls[k]? = some x) w1 => pEncoded x _ (hv32 k x hx) (valid_code (check_valid he hx)) w1)
    generalize fixL (opds ls) = F at *
    have hlen : ls.length = ls.length := rfl
    generalize hnn : ls.length = n at *
    obtain ⟨i0, hi0, hz0, hz1, hz2⟩ := info_parts byte_info
    have HE := Lib.hid he
    have HCL := Lib.hid hcl
    have HEND := Lib.hid hend
    have HS := Lib.hid hS
    have HR := Lib.hid hr
    have HV32 := Lib.hid hv32
    have HNN := Lib.hid hnn
    have HBB := Lib.hid hB
    clear h8 he hcl hend hS hr hok hfit hv32 hL hnn hlen hB
    go_enter Tryd.func14, Tryd.ntmps14
    go_wp2_with (go_at_call 39; refine HC0.out.mono ?_; rintro e w1 ⟨hb1, b, q, g, rfl, hO1, hg1, hle1, hle2, hd⟩
                 have HS1 := Lib.hid (HS.out.call hb1)
                 have HO1 := Lib.hid hO1
                 have HG1 := Lib.hid hg1
                 have HD := Lib.hid hd
                 have HN1 : Hid (w1.ownsRow w.heap.size 5 1 (.slice none 0 0) 0 (bcells (codeK F ls 0))) := Lib.hid (World.ownsRow_nil _ _ _ _)
                 clear hO1 hg1 hd hb1)
    go_loopw [2, 19] (fun v p wr => ∃ k : Nat, k ≤ n ∧ p = .int .i64 k ∧ Hid (S5 B w wr) ∧ Hid (OwnI wr b q (mapL ls)) ∧ Hid (Blk wr g 3 (ncells (adrs F n)).toArray) ∧ Hid (wr.ownsRow w.heap.size 5 1 v (codeK F ls k).length (bcells (codeK F ls k)))) (fun _ p _ => n - (intOf p).toNat)
    case atStart => exact ⟨0, by omega, rfl, HS1, HO1, HG1, HN1⟩
    case round =>
      clear HS1 HO1 HG1 HN1
      obtain ⟨k, hk, rfl, S, HO, HG, HN⟩ := hrel
      by_cases hlt : k < n
      · have hltI : (k : Int) < n := by omega
        obtain ⟨bk, off, x, rfl, hbk, hx, c0, c1, c2, c3, c4⟩ := lines_at (HR.out.below S.out.k) hlt
        have hbs : bk < wr.heap.size := by have := S.out.k.size; omega
        have hsuc := codeK_succ (F := F) hx
        have hv32 := HV32.out k x hx
        obtain ⟨W, hWW⟩ : ∃ W, wr.alloc (.cells (lineC x) 27) = W := ⟨_, rfl⟩
        have S1 := S.out.alloc (.cells (lineC x) 27)
        have O1 := HO.out.alloc (.cells (lineC x) 27)
        have G1 := HG.out.alloc (.cells (lineC x) 27)
        have N1 := HN.out.alloc (.cells (lineC x) 27)
        have b0 := Blk.new wr 27 (lineC x)
        rw [hWW] at S1 O1 G1 N1 b0
        have HCO := Lib.hid (HOP.out k x hx b q HD.out g W.drew O1 G1)
        have HCE := Lib.hid (HEN.out k x hx)
        have hl8 := lenV_le hv32
        have hlk := HCL.out k
        have hel := encI_len x.fn (valO F (opdL ls k x))
        simp only [lineC] at hWW b0 HCO HCE
        have HSUC := Lib.hid hsuc
        generalize valO F (opdL ls k x) = vv at *
        generalize encI x.fn vv = en at *
        generalize codeK F ls k = ck at *
        have HS1 := Lib.hid S1
        have HO1 := Lib.hid O1
        have HG1 := Lib.hid G1
        have HN1 := Lib.hid N1
        have hbW := b0.lt
        clear hsuc hv32 S1 O1 G1 N1 S HO HG HN HOP HEN
        have h1c : ∀ u ∈ bcells en, u.oneCell' = true := by
          intro u hu
          obtain ⟨z, -, rfl⟩ := List.mem_map.1 hu
          rfl
        generalize hlv : lenV vv = lv at *
        go_upto_region 7 with (fail)
        obtain ⟨d00, d01, d02, d03, d04⟩ := cells5 b0
        go_region_held3 (fun w' => w'.cell? ⟨wr.heap.size, 0, none⟩ = some (.string (strB x.label)) ∧ w'.cell? ⟨wr.heap.size, 1, none⟩ = some (.int .u8 x.fn) ∧ w'.cell? ⟨wr.heap.size, 2, none⟩ = some (.int .i32 x.arg) ∧ w'.cell? ⟨wr.heap.size, 3, none⟩ = some (.string (strB x.target)) ∧ w'.cell? ⟨wr.heap.size, 4, none⟩ = some (.string (strB x.frm)))
          (first | exact cells5 b0.drew | exact cells5 (b0.drew.call hb1) | exact cells5 ((b0.drew.call hb1).call hb2) | exact cells5 bx3)
          (first
            | (go_at_call 41; (with_reducible refine HCO.out.mono ?_); rintro e w1 ⟨rfl, hb1⟩)
            | (go_at_call 40; refine (HCE.out _).mono ?_; intro e w2 hret; obtain ⟨A2, c2, rfl, hown2, hb2, hle2⟩ := hret.cell
               have N2 := (HN1.out.drew'.keep hb1 (Nat.le_refl _)).keep hb2 (Nat.le_refl _)
               have R2 := Reads.of_own hown2)
            | (refine step_append_any w2 rfl (.tmp 24) (.tmp 31) 22 rfl w.heap.size 5 i0 _ 1 1 Tryd.underlying22 hi0 hz0 hz1 hz2 rfl (by decide) _ _ _ rfl N2 w2.heap.size A2 lv c2 (bcells en) rfl R2 h1c (by unfold maxLen; omega) (by omega) (by have := HS1.out.k.size; have := hb1.size; have := hb2.size; simp at *; omega) ?_
               intro v' w3 hown3 hg3 hat3
               have bx3 := ((b0.drew.call hb1).call hb2).grown hg3 (by have := own_blk_ne N2 ((b0.drew.call hb1).call hb2) (by decide); exact fun h => this h.symm)))
        have HS3 := Lib.hid (((HS1.out.drew.call hb1).call hb2).grownR N2 hg3 HBB.out)
        have O2 := own_call (own_call HO1.out.drew hb1) hb2
        have HO3 := Lib.hid (World.ownsMap.kept O2 hg3 (own_map_ne N2 O2))
        have G2 := (HG1.out.drew.call hb1).call hb2
        have HG3 := Lib.hid (G2.grown hg3 (fun h => own_blk_ne N2 G2 (by decide) h.symm))
        have HN3 : Hid (w3.ownsRow w.heap.size 5 1 v' (ck ++ en).length (bcells (ck ++ en))) := Lib.hid (by rw [List.length_append, hel, bcells_append]; exact hown3)
        clear O2 G2 N2 R2 hb1 hb2 hg3 hat3 bx3 hown2 hown3
        go_wp2
        go_roundw
        case rel => exact ⟨k + 1, by omega, by go_num, HS3, HO3, HG3, by rw [HSUC.out]; exact HN3⟩
        case measure => simp [intOf]; omega
      · have hltI : ¬ (k : Int) < n := by omega
        obtain rfl : n = k := by omega
        rw [HEND.out] at HN
        obtain ⟨A3, c3, rfl⟩ := own_form HN.out
        clear HOP HEN
        go_wp2
        go_quiet (fail)
        go_wp2
        go_ret3
        exact ⟨below_drewN S.out.k nq, .inl ⟨HE.out, A3, c3, g, rfl, HN.out, HG.out.drewN nq, hle2⟩⟩
  · have HC0 := Lib.hid (HC.out.mono fun e w' h => h.not he)
    have hne : (checkE ls != 0) = true := by simpa using he
    clear HC
    go_enter Tryd.func14, Tryd.ntmps14
    go_wp2_with (go_at_call 39; refine HC0.out.mono ?_; rintro e w1 ⟨hb1, rfl⟩)
    go_ret3
    exact ⟨hb1, .inr ⟨he, rfl⟩⟩
end Go.Proofs.YtljeecocbcffcaaDoor

/- May, and a line's text, walked. -/
namespace Go.Proofs.YtljeecocbcffcaaDoor
open Go.RowKit Go.Maps Go.WideMaps

set_option maxRecDepth 100000 in
set_option maxHeartbeats 2000000 in
theorem pMayL (ls : List LineL) (hok : ∀ x ∈ ls, LOk x) (hn : ls.length ≤ 4096) (A : Option Addr) (c B : Nat) (w : World) (hr : Reads w w.heap.size 5 A ls.length (linesL ls)) (hL : Laid5 B w) (hB : B ≤ w.heap.size) :
    Calls Tryd.prog 50 #[.slice A (ls.length : Nat) c] w (RetV (.bool (checkE ls == 0)) w) := by
  have HC := Lib.hid (pCheck ls hok A ls.length c (by omega) B w hr hL hB)
  by_cases he : checkE ls = 0
  · have HC0 : Hid (Calls Tryd.prog 59 #[.slice A (ls.length : Nat) c] w fun e w' => Below w.heap.size w w' ∧ ∃ b q, e = .returned (.tuple #[.map (some b), .int .i64 0]) ∧ OwnI w' b q (mapL ls) ∧ w.heap.size ≤ b ∧ Dist ls) :=
      Lib.hid (HC.out.mono fun e w' h => ⟨h.1, by
        rcases h.2 with h | h
        · exact h.2
        · exact absurd he h.1⟩)
    clear HC
    go_enter Tryd.func50, Tryd.ntmps50
    go_wp2_with (go_at_call 59; refine HC0.out.mono ?_; rintro e w1 ⟨hb1, b, q, rfl, hO1, hle1, hd⟩)
    go_ret
    exact ⟨by rw [he]; rfl, hb1⟩
  · have HC0 : Hid (Calls Tryd.prog 59 #[.slice A (ls.length : Nat) c] w fun e w' => Below w.heap.size w w' ∧ e = .returned (.tuple #[.map none, .int .i64 (checkE ls)])) :=
      Lib.hid (HC.out.mono fun e w' h => ⟨h.1, by
        rcases h.2 with h | h
        · exact absurd h.1 he
        · exact h.2⟩)
    clear HC
    go_enter Tryd.func50, Tryd.ntmps50
    go_wp2_with (go_at_call 59; refine HC0.out.mono ?_; rintro e w1 ⟨hb1, rfl⟩)
    go_ret
    exact ⟨rfl, hb1⟩
theorem bapp_nil (a : ByteArray) : a ++ { data := #[] } = a := by
  apply ByteArray.ext
  simp [ByteArray.data_append]
theorem findI_name_len (fn arg : Int) : ((findI fn arg).getD irow0).name.length ≤ 12 := by
  cases h : findI fn arg with
  | none => decide
  | some r =>
    obtain ⟨hm, -⟩ := findI_some h
    exact (row_ok hm).2.2
set_option maxRecDepth 100000 in
set_option maxHeartbeats 4000000 in
theorem pOne (x : LineL) (hx : LOk x) (B : Nat) (w : World) (hL : Laid5 B w) (hB : B ≤ w.heap.size) : Calls Tryd.prog 54 #[.agg (lineC x)] w (RetV (.string (strB (oneT x))) w) := by
  have S0 := S5.start hL hB
  have b0 := Blk.new w 27 (lineC x)
  have S1 := S0.alloc (.cells (lineC x) 27)
  obtain ⟨W, hW⟩ : ∃ W, w.alloc (.cells (lineC x) 27) = W := ⟨_, rfl⟩
  rw [hW] at b0 S1
  have HNm := Lib.hid (pName (x.fn : Int) x.arg ⟨by omega, by have := hx.fn; omega⟩ B W S1.l S1.b)
  have HI := Lib.hid (fun w (hL : Laid B w) => itoa_any B x.arg w hx.arg hL)
  have hil : (⟨(Lib.itoa x.arg).toArray⟩ : ByteArray).size ≤ 11 := by
    have := itoa_len x.arg hx.arg
    simpa [ByteArray.size] using this
  unfold nameP at HNm
  have hnl : (strB ((findI (x.fn : Int) x.arg).getD irow0).name).size ≤ 12 := by rw [strB_size]; exact findI_name_len _ _
  have h1 : (strB x.label).size ≤ 281474976710656 := by rw [strB_size]; exact hx.label
  have h2 : (strB x.target).size ≤ 281474976710656 := by rw [strB_size]; exact hx.target
  have h3 : (strB x.frm).size ≤ 281474976710656 := by rw [strB_size]; exact hx.frm
  have el := strB_empty x.label
  have et := strB_empty x.target
  have ef := strB_empty x.frm
  have hone : strB (oneT x) = (if x.label.isEmpty then strB (nameT x) else strB x.label ++ strB [58, 32] ++ strB (nameT x)) ++
      (if x.fn = 15 then strB [] else if x.target.isEmpty then strB [32] ++ ⟨(Lib.itoa x.arg).toArray⟩ else if x.frm.isEmpty then strB [32] ++ strB x.target else strB [32] ++ strB x.target ++ strB [45] ++ strB x.frm) := by
    have ei : (⟨(Lib.itoa x.arg).toArray⟩ : ByteArray) = strB (textL x.arg false) := rfl
    rw [ei, oneT, tailT]
    by_cases h1 : x.label.isEmpty = true <;> by_cases h2 : x.fn = 15 <;> by_cases h3 : x.target.isEmpty = true <;> by_cases h4 : x.frm.isEmpty = true <;>
      simp only [h1, h2, h3, h4, if_true, if_false, str_append, List.append_assoc, List.nil_append, List.cons_append, List.append_nil, Bool.false_eq_true]
  have hle2 := hx.fn
  obtain ⟨ha1, ha2⟩ := hx.arg
  rw [show ((findI (x.fn : Int) x.arg).getD irow0).name = nameT x from rfl] at HNm hnl
  simp only [lineC] at b0 hW ⊢
  clear hL hx S0
  generalize (⟨(Lib.itoa x.arg).toArray⟩ : ByteArray) = SI at *
  generalize strB (oneT x) = SO at *
  generalize strB (nameT x) = NM at *
  generalize strB x.label = SL at *
  generalize strB x.target = ST at *
  generalize strB x.frm = SF at *
  generalize x.label.isEmpty = zl at *
  generalize x.target.isEmpty = zt at *
  generalize x.frm.isEmpty = zf at *
  generalize (findI (x.fn : Int) x.arg).isSome = bs at *
  have k0 : Below w.heap.size w W := S1.k
  have HS1 := Lib.hid S1
  have HONE := Lib.hid hone
  clear S1 hone
  have c00 := b0.cell 0
  have c01 := b0.cell 1
  have c02 := b0.cell 2
  have c03 := b0.cell 3
  have c04 := b0.cell 4
  simp at c00 c01 c02 c03 c04
  go_enter Tryd.func54, Tryd.ntmps54
  go_upto_region 1 with (fail)
  have hst : ¬ ((strB [58, 32]).size = 0) := by decide
  clear hst
  by_cases h15 : x.fn = 15
  · have h15i : ((x.fn : Int) == 15) = true := by simp; omega
    have H15 := Lib.hid h15
    clear h15
    cases zl
    all_goals
      go_wp2_with (first
        | (go_at_call 71; refine HNm.out.mono ?_; rintro e w1 ⟨rfl, hb1⟩
           have HS2 := Lib.hid (HS1.out.call hb1)
           have hl2 := Lib.hid (show Laid B w1 from HS2.out.l.1)
           have b1 := b0.call hb1
           have d00 := b1.cell 0
           have d01 := b1.cell 1
           have d02 := b1.cell 2
           have d03 := b1.cell 3
           have d04 := b1.cell 4
           simp at d00 d01 d02 d03 d04
           ))
      go_ret
      exact ⟨by rw [HONE.out]; simp [strB, ByteArray.append_assoc, H15.out, bapp_nil], HS2.out.k⟩
  have h15i : ((x.fn : Int) == 15) = false := by simp; omega
  have H15 := Lib.hid h15
  clear h15
  cases zt
  · cases zf
    all_goals cases zl
    all_goals
      go_wp2_with (first
        | (go_at_call 71; refine HNm.out.mono ?_; rintro e w1 ⟨rfl, hb1⟩
           have HS2 := Lib.hid (HS1.out.call hb1)
           have hl2 := Lib.hid (show Laid B w1 from HS2.out.l.1)
           have b1 := b0.call hb1
           have d00 := b1.cell 0
           have d01 := b1.cell 1
           have d02 := b1.cell 2
           have d03 := b1.cell 3
           have d04 := b1.cell 4
           simp at d00 d01 d02 d03 d04
           ))
      go_ret
      exact ⟨by rw [HONE.out]; simp [strB, ByteArray.append_assoc, H15.out, bapp_nil], HS2.out.k⟩
  · cases zl
    all_goals
      go_wp2_with (first
        | (go_at_call 71; refine HNm.out.mono ?_; rintro e w1 ⟨rfl, hb1⟩
           have HS2 := Lib.hid (HS1.out.call hb1)
           have hl2 := Lib.hid (show Laid B w1 from HS2.out.l.1)
           have b1 := b0.call hb1
           have d00 := b1.cell 0
           have d01 := b1.cell 1
           have d02 := b1.cell 2
           have d03 := b1.cell 3
           have d04 := b1.cell 4
           simp at d00 d01 d02 d03 d04
           )
        | (go_at_call 72; refine (HI.out w1 hl2.out).mono ?_; rintro e w2 ⟨rfl, hb2⟩
           have HS3 := Lib.hid (HS2.out.call hb2)))
      go_ret
      exact ⟨by rw [HONE.out]; simp [strB, ByteArray.append_assoc, H15.out, bapp_nil], HS3.out.k⟩
end Go.Proofs.YtljeecocbcffcaaDoor

/- The Builder's writing, walked at this program; the text of lines, walked. -/
namespace Go.Proofs.YtljeecocbcffcaaDoor
open Go.RowKit Go.Maps Go.WideMaps Go.Shelf

abbrev IsB (B b : Nat) (l : List UInt8) (w : World) : Prop := Lib.IsBuilderF 104 5 B b (Lib.byteCells l) w
set_option maxHeartbeats 1000000 in
set_option maxRecDepth 100000 in
theorem bCheckUsed (b : Nat) (w : World) (h0 : w.cell? ⟨b, 0, none⟩ = some (.pointer (some ⟨b, 0, none⟩))) :
    Calls Tryd.prog 82 #[.pointer (some ⟨b, 0, none⟩)] w fun e w' => e = .returned (.tuple #[]) ∧ w' = w := by
  obtain ⟨j, hj, _⟩ := Option.map_eq_some_iff.1 Tryd.Builder_Extra_169.sizeBuilder
  go_enter Tryd.func82, Tryd.ntmps82
  go_wp2
  rw [Lib.run_neq_ptr_same w _ Tryd.underlying102 hj]
  go_wp2
  go_end0
  exact ⟨rfl, rfl⟩
set_option maxHeartbeats 1000000 in
set_option maxRecDepth 100000 in
theorem bCheckFresh (b : Nat) (w : World) (h0 : w.cell? ⟨b, 0, none⟩ = some (.pointer none)) (hsh : w.shape? b = some (104, 2)) (hfz : w.frozen? ⟨b, 0, none⟩ = false) :
    Calls Tryd.prog 82 #[.pointer (some ⟨b, 0, none⟩)] w fun e w' => e = .returned (.tuple #[]) ∧ w' = w.setCell ⟨b, 0, none⟩ (.pointer (some ⟨b, 0, none⟩)) := by
  obtain ⟨j, hj, hjs⟩ := Option.map_eq_some_iff.1 Tryd.Builder_Extra_169.sizeBuilder
  go_enter Tryd.func82, Tryd.ntmps82
  go_wp2
  rw [Lib.run_to_unsafe w ⟨b, 0, none⟩ Tryd.underlying102 Tryd.underlying142 hj (by rw [hjs]; decide) hsh (Nat.zero_lt_succ 1)]
  simp only [Result.andThen]
  rw [Oper.upon_value]
  go_wp2
  rw [run_callFunc_extern Tryd.func92 (by kernel_rfl) (by kernel_rfl) (by kernel_rfl) (e := Extern.AbiNoEscape.same) (by kernel_rfl)]
  rw [Lib.run_noEscape]
  simp only [Result.andThen]
  rw [Oper.upon_value]
  go_wp2
  rw [Lib.run_from_unsafe w ⟨b, 0, none⟩ Tryd.underlying142 Tryd.underlying102 hj hsh Tryd.Builder_Extra_169.liesBuilder]
  simp only [Result.andThen]
  rw [Oper.upon_value]
  go_wp2
  go_end0
  exact ⟨rfl, rfl⟩
theorem bCheck (B b : Nat) (bs : List Value) (w : World) (h : Lib.IsBuilderF 104 5 B b bs w) :
    Calls Tryd.prog 82 #[.pointer (some ⟨b, 0, none⟩)] w fun e w' => e = .returned (.tuple #[]) ∧ (Lib.BuilderAtF 104 5 B b (.pointer (some ⟨b, 0, none⟩)) bs w' ∧ Below B w w') := by
  rcases h with h | h
  · refine (bCheckFresh b w h.cell0 h.shape h.frozen0).mono ?_
    rintro e w' ⟨rfl, rfl⟩
    exact ⟨rfl, h.used _, (Below.refl B w).setCell (p := ⟨b, 0, none⟩) h.1 _⟩
  · refine (bCheckUsed b w h.cell0).mono ?_
    rintro e w' ⟨rfl, rfl⟩
    exact ⟨rfl, h, Below.refl B _⟩
set_option maxHeartbeats 2000000 in
set_option maxRecDepth 100000 in
theorem bWrite (B b : Nat) (bs : List Value) (s : ByteArray) (w : World) (h : Lib.IsBuilderF 104 5 B b bs w) (hlen : bs.length + s.size ≤ 140737488355328) (hBw : B ≤ w.heap.size) :
    Calls Tryd.prog 63 #[.pointer (some ⟨b, 0, none⟩), .string s] w fun e w' => e = .returned (.tuple #[.int .i64 s.size, .nilIface]) ∧ (Lib.IsBuilderF 104 5 B b (bs ++ Lib.strCells s) w' ∧ Below B w w') := by
  obtain ⟨i0, hi, hz0, hz1, hz2⟩ := info_parts byte_info
  go_enter Tryd.func63, Tryd.ntmps63
  go_wp2_with (go_at_call 82; refine (bCheck B b bs _ h).mono ?_)
  rintro e w1 ⟨rfl, h1, hb1⟩
  obtain ⟨hB, v, hbk, hown, hne⟩ := h1
  have c0 : w1.cell? ⟨b, 0, none⟩ = some (.pointer (some ⟨b, 0, none⟩)) := by rw [Lib.cell_of_heap hbk]; rfl
  have c1 : w1.cell? ⟨b, 1, none⟩ = some v := by rw [Lib.cell_of_heap hbk]; rfl
  go_wp2_with (at_builtin; refine Lib.wpList_append_own_stringF _ rfl _ _ 22 9 rfl B 5 i0 Tryd.underlying22 Tryd.underlying9 hi hz0 hz1 hz2 _ _ _ rfl hown s rfl ?c3 ?c4 ?c5 ?_)
  case c3 => unfold maxLen; omega
  case c4 => omega
  case c5 => have := hb1.size; omega
  intro v' w2 hown' hgrow _
  have hlt : b < w1.heap.size := by
    rcases Nat.lt_or_ge b w1.heap.size with h' | h'
    · exact h'
    · simp [Array.getElem?_eq_none h'] at hbk
  have hb2 : w2.heap[b]? = some (.cells #[.pointer (some ⟨b, 0, none⟩), v] 104 (0, 0)) := by
    rw [hgrow.block b hlt (fun e => hne e.symm)]
    exact hbk
  have d0 : w2.cell? ⟨b, 0, none⟩ = some (.pointer (some ⟨b, 0, none⟩)) := by rw [Lib.cell_of_heap hb2]; rfl
  have d1 : w2.cell? ⟨b, 1, none⟩ = some v := by rw [Lib.cell_of_heap hb2]; rfl
  have f1 : w2.frozen? ⟨b, 1, none⟩ = false := Lib.frozen_of_heap hb2 1
  obtain ⟨ao, n', cap, rfl⟩ : ∃ ao n' cap, v' = .slice ao n' cap := by
    rcases hown'.2 with ⟨hv, _⟩ | ⟨g, cap, cur, fz, hv, _⟩
    · exact ⟨_, _, _, hv⟩
    · exact ⟨_, _, _, hv⟩
  go_wp2
  go_ret2
  refine ⟨rfl, ?_, ?_⟩
  · exact .inr (Lib.BuilderAtF.put (T := 104) (e := 5) hB hb2 (bs' := bs ++ Lib.strCells s) (by simpa [Lib.strCells_length] using hown') (by decide))
  · exact (hb1.grown hgrow (by have := hb1.size; omega) (fun k hk => (hown.lt k hk).1)).setCell (p := ⟨b, 1, none⟩) hB _
theorem isB_new (w : World) : IsB w.heap.size w.heap.size [] (w.alloc (.cells #[.pointer none, .slice none 0 0] 104)) :=
  .inl ⟨Nat.le_refl _, .slice none 0 0, heap_alloc_new w _, ⟨by simp [Lib.byteCells], .inl ⟨rfl, rfl⟩⟩, by simp [Value.ownBlock]⟩
theorem isB_write {B b : Nat} {l m : List UInt8} {w : World} (h : IsB B b l w) (hlen : l.length + m.length ≤ 140737488355328) (hBw : B ≤ w.heap.size) :
    Calls Tryd.prog 63 #[.pointer (some ⟨b, 0, none⟩), .string (strB m)] w fun e w' => e = .returned (.tuple #[.int .i64 m.length, .nilIface]) ∧ (IsB B b (l ++ m) w' ∧ Below B w w') := by
  have := bWrite B b _ (strB m) w h (by rw [Lib.byteCells_length, strB_size]; exact hlen) hBw
  rw [strB_size] at this
  have e : Lib.byteCells l ++ Lib.strCells (strB m) = Lib.byteCells (l ++ m) := by
    rw [Lib.strCells_eq]
    simp [Lib.byteCells, strB]
  rwa [e] at this
theorem S5.callB {B : Nat} {w0 w w1 : World} (h : S5 B w0 w) (hB : B ≤ w0.heap.size) (hb : Below w0.heap.size w w1) : S5 B w0 w1 :=
  ⟨h.l.on (hb.mono hB), Nat.le_trans h.b hb.size, h.k.trans hb⟩
def textK (ls : List LineL) (k : Nat) : List UInt8 := textT (ls.take k)
theorem textK_succ {ls : List LineL} {k : Nat} {x : LineL} (h : ls[k]? = some x) : textK ls (k + 1) = textK ls k ++ (oneT x ++ [10]) := by
  unfold textK textT
  rw [List.take_add_one, h]
  simp
theorem oneT_len {x : LineL} (h : LOk x) (hv : validB x = true) : (oneT x).length ≤ 200 := by
  have hn : (nameT x).length ≤ 12 := findI_name_len _ _
  have hi := itoa_len x.arg h.arg
  have lab : ∀ l, labelB l = true → l.length ≤ 32 := by
    intro l hl
    cases l with
    | nil => decide
    | cons c r => simp only [labelB, Bool.and_eq_true, decide_eq_true_eq] at hl; exact hl.2
  simp only [validB, Bool.and_eq_true, Bool.or_eq_true] at hv
  obtain ⟨h1, h2⟩ := hv
  have l1 : x.label.length ≤ 32 := by
    rcases h1 with h1 | h1
    · rw [List.isEmpty_iff.1 h1]; decide
    · exact lab _ h1
  have l2 : x.target.length ≤ 32 ∧ x.frm.length ≤ 32 := by
    by_cases ht : x.target.isEmpty = true
    · rw [if_pos ht] at h2
      simp only [Bool.and_eq_true] at h2
      rw [List.isEmpty_iff.1 ht, List.isEmpty_iff.1 h2.1]
      decide
    · rw [if_neg ht] at h2
      simp only [Bool.and_eq_true, Bool.or_eq_true] at h2
      refine ⟨lab _ h2.1.1.1.1.1, ?_⟩
      rcases h2.1.1.1.1.2 with h3 | h3
      · rw [List.isEmpty_iff.1 h3]; decide
      · exact lab _ h3
  have ht : (tailT x).length ≤ 100 := by
    unfold tailT
    have e : textL x.arg false = Lib.itoa x.arg := rfl
    rw [e]
    split
    · simp
    · split
      · simp; omega
      · split <;> simp <;> omega
  unfold oneT
  rw [List.length_append, List.length_append]
  split
  · simp; omega
  · simp; omega
theorem textK_len {ls : List LineL} (hok : ∀ x ∈ ls, LOk x) : ∀ k, (ls.take k).all validB = true → (textK ls k).length ≤ 300 * k
  | 0, _ => by simp [textK, textT]
  | k + 1, h => by
    cases hx : ls[k]? with
    | none =>
      have e : ls.take (k + 1) = ls.take k := by rw [List.take_add_one, hx]; simp
      rw [e] at h
      have := textK_len hok k h
      unfold textK at this ⊢
      rw [e]; omega
    | some x =>
      rw [take_succ_of hx, List.all_append, Bool.and_eq_true] at h
      have ih := textK_len hok k h.1
      have hv : validB x = true := by simpa using h.2
      have := oneT_len (hok x (List.mem_of_getElem? hx)) hv
      rw [textK_succ hx, List.length_append, List.length_append]
      simp only [List.length_cons, List.length_nil]
      omega
def RetTx (ls : List LineL) (w : World) (e : Ending) (w' : World) : Prop :=
  e = .returned (if ls.all validB = true then .tuple #[.string (strB (textT ls)), .int .i64 0] else .tuple #[.string (strB []), .int .i64 2]) ∧ Below w.heap.size w w'
set_option maxHeartbeats 2000000 in
set_option maxRecDepth 100000 in
theorem pTextL (ls : List LineL) (hok : ∀ x ∈ ls, LOk x) (hn : ls.length ≤ 4096) (A : Option Addr) (c B : Nat) (w : World) (hr : Reads w w.heap.size 5 A ls.length (linesL ls)) (hL : Laid5 B w) (hB : B ≤ w.heap.size) :
    Calls Tryd.prog 48 #[.slice A (ls.length : Nat) c] w (RetTx ls w) := by
  have S := Lib.hid ((S5.start hL hB).alloc (.cells #[.pointer none, .slice none 0 0] 104))
  have HIB := Lib.hid (isB_new w)
  have HR := Lib.hid hr
  have HK := Lib.hid hok
  have HLN := Lib.hid (textK_len hok)
  obtain ⟨n, hnn⟩ : ∃ n, ls.length = n := ⟨_, rfl⟩
  have HN := Lib.hid hnn
  rw [hnn] at HR hn ⊢
  have HB := Lib.hid hB
  clear hr hok hL hB hnn
  obtain ⟨bb, hbb⟩ : ∃ bb, w.heap.size = bb := ⟨_, rfl⟩
  have HBB := Lib.hid hbb
  go_enter Tryd.func48, Tryd.ntmps48
  go_upto_region 2 with (fail)
  rw [hbb] at HIB
  clear hbb
  go_wp2
  go_loopw [9] (fun p wr => ∃ k : Nat, k ≤ n ∧ p = .int .i64 k ∧ Hid ((ls.take k).all validB = true) ∧ Hid (S5 B w wr) ∧ Hid (IsB bb bb (textK ls k) wr)) (fun p _ => n - (intOf p).toNat)
  case atStart => exact ⟨0, by omega, rfl, Lib.hid rfl, S, HIB⟩
  case round =>
    clear S HIB
    obtain ⟨k, hk, rfl, HV, S, HIB⟩ := hrel
    by_cases hlt : k < n
    · have hltI : (k : Int) < n := by omega
      obtain ⟨b, off, x, rfl, hb, hx, c0, c1, c2, c3, c4⟩ := lines_at (HR.out.below S.out.k) hlt
      have hbs : b < wr.heap.size := by have := S.out.k.size; omega
      have b0 := Blk.new wr 27 (lineC x)
      have hxo := HK.out x (List.mem_of_getElem? hx)
      have HS1 := Lib.hid (S.out.alloc (.cells (lineC x) 27))
      have HI1 := Lib.hid (Lib.IsBuilderF.alloc HIB.out (.cells (lineC x) 27))
      have HC := Lib.hid (pValid x hxo B _ HS1.out.l HS1.out.b)
      have HO := Lib.hid (fun w h1 h2 => pOne x hxo B w h1 h2)
      simp only [lineC] at b0 HS1 HI1 HC HO
      have HX := Lib.hid hx
      have hol := fun hv => oneT_len hxo hv
      clear hx S HIB
      generalize hv : validB x = bv at *
      have HVX := Lib.hid hv
      clear hv
      cases bv
      · have hno : ls.all validB = false := by
          rw [List.all_eq_false]
          exact ⟨x, List.mem_of_getElem? HX.out, by simp [HVX.out]⟩
        have HNO := Lib.hid hno
        clear hno
        go_wp2_with (go_at_call 53; refine HC.out.mono ?_; rintro e w1 ⟨rfl, hb1⟩)
        go_ret2
        exact ⟨by rw [HNO.out]; rfl, (HS1.out.call hb1).k⟩
      · have hsl := hol rfl
        have hall := all_take_succ HX.out HV.out HVX.out
        have HALL := Lib.hid hall
        have hkl := HLN.out k HV.out
        have HW := Lib.hid (fun w (h : IsB bb bb (textK ls k) w) (hB : bb ≤ w.heap.size) => isB_write (m := oneT x ++ [10]) h (by simp; omega) hB)
        have HSUC := Lib.hid (textK_succ HX.out)
        have e1 : strB (oneT x ++ [10]) = strB (oneT x) ++ ⟨#[10]⟩ := (str_append (oneT x) [10]).symm
        rw [e1] at HW
        have hSs : (strB (oneT x)).size ≤ 200 := by rw [strB_size]; exact hsl
        clear e1 hall hol hsl
        generalize strB (oneT x) = SO at *
        go_wp2_with (first
          | (go_at_call 53; refine HC.out.mono ?_; rintro e w1 ⟨rfl, hb1⟩
             have HS2 := Lib.hid (HS1.out.call hb1)
             have HI2 := Lib.hid (Lib.IsBuilderF.below HI1.out hb1)
             have b1 := b0.call hb1
             have d00 := b1.cell 0
             have d01 := b1.cell 1
             have d02 := b1.cell 2
             have d03 := b1.cell 3
             have d04 := b1.cell 4
             simp at d00 d01 d02 d03 d04
             have hl2 := Lib.hid HS2.out.l
             have hB2 := Lib.hid HS2.out.b)
          | (go_at_call 54; refine (HO.out _ hl2.out hB2.out).mono ?_; rintro e w2 ⟨rfl, hb2⟩
             have HS3 := Lib.hid (HS2.out.call hb2)
             have HI3 := Lib.hid (Lib.IsBuilderF.below HI2.out hb2)
             have hbz := Lib.hid (show bb ≤ w2.heap.size by rw [← HBB.out]; exact HS3.out.k.size))
          | (go_at_call 63; refine (HW.out _ HI3.out hbz.out).mono ?_; rintro e w3 ⟨rfl, hib, hb3⟩
             have HS4 := Lib.hid (HS3.out.callB HB.out (by rw [HBB.out]; exact hb3))
             have HI4 := Lib.hid hib))
        go_roundw
        case rel => exact ⟨k + 1, by omega, by go_num, HALL, HS4, by rw [HSUC.out]; exact HI4⟩
        case measure => simp [intOf]; omega
    · have hltI : ¬ (k : Int) < n := by omega
      obtain rfl : n = k := by omega
      have he : textK ls n = textT ls := by unfold textK; rw [List.take_of_length_le (by rw [HN.out]; omega)]
      have HA : Hid (ls.all validB = true) := Lib.hid (by have := HV.out; rwa [List.take_of_length_le (by rw [HN.out]; omega)] at this)
      rw [he] at HIB
      have hbz : bb ≤ wr.heap.size := by rw [← HBB.out]; exact S.out.k.size
      go_wp2_with (go_at_call 64; refine (Any.Builder_String_any_k Tryd.lays169 Tryd.Builder_Extra_169 bb bb (textT ls) wr HIB.out hbz).mono ?_; rintro e w3 ⟨rfl, -, hb3, -⟩
                   have HS4 := Lib.hid (S.out.callB HB.out (by rw [HBB.out]; exact hb3)))
      go_ret2
      exact ⟨by rw [HA.out]; rfl, HS4.out.k⟩
end Go.Proofs.YtljeecocbcffcaaDoor

/- A line that a text might be, read by the program: walked. -/
namespace Go.Proofs.YtljeecocbcffcaaDoor
open Go.RowKit Go.Maps Go.WideMaps Go.Shelf

/-- The variable that strings.Index asks. -/
def MaxAt (B : Nat) (w : World) : Prop := ∀ w', Below B w w' → ∃ m, w'.cell? ⟨1, 0, none⟩ = some (.int .i64 m)
theorem MaxAt.on {B : Nat} {w w1 : World} (h : MaxAt B w) (hb : Below B w w1) : MaxAt B w1 := fun w' h' => h w' (hb.trans h')
def S6 (B : Nat) (w0 w : World) : Prop := S5 B w0 w ∧ MaxAt B w
theorem S6.start {B : Nat} {w : World} (h : Laid5 B w) (hm : MaxAt B w) (hB : B ≤ w.heap.size) : S6 B w w := ⟨S5.start h hB, hm⟩
theorem S6.l {B : Nat} {w0 w : World} (h : S6 B w0 w) : Laid5 B w := h.1.l
theorem S6.m {B : Nat} {w0 w : World} (h : S6 B w0 w) : MaxAt B w := h.2
theorem S6.b {B : Nat} {w0 w : World} (h : S6 B w0 w) : B ≤ w.heap.size := h.1.b
theorem S6.k {B : Nat} {w0 w : World} (h : S6 B w0 w) : Below w0.heap.size w0 w := h.1.k
theorem S6.call {B : Nat} {w0 w w1 : World} (h : S6 B w0 w) (hb : Below w.heap.size w w1) : S6 B w0 w1 := ⟨h.1.call hb, h.2.on (hb.mono h.b)⟩
theorem S6.alloc {B : Nat} {w0 w : World} (h : S6 B w0 w) (o : Obj) : S6 B w0 (w.alloc o) := h.call ((Below.refl _ _).alloc (Nat.le_refl _) _)
theorem S6.drew {B : Nat} {w0 w : World} (h : S6 B w0 w) : S6 B w0 w.drew := h.call (Below.refl _ _).drew
theorem S6.callB {B : Nat} {w0 w w1 : World} (h : S6 B w0 w) (hB : B ≤ w0.heap.size) (hb : Below w0.heap.size w w1) : S6 B w0 w1 := ⟨h.1.callB hB hb, h.2.on (hb.mono hB)⟩
theorem S6.set {B : Nat} {w0 w : World} (h : S6 B w0 w) (hB : B ≤ w0.heap.size) {p : Addr} (hp : w0.heap.size ≤ p.block) (u : Value) : S6 B w0 (w.setCell p u) :=
  ⟨h.1.set hB hp u, h.2.on ((Below.refl _ _).setCell (by omega) u)⟩
theorem cut_call (l sep : List UInt8) (hl : l.length ≤ 4000000000) (B : Nat) (w : World) (hm : MaxAt B w) :
    Calls Tryd.prog 66 #[.string (strB l), .string (strB sep)] w (RetV (.tuple #[.string (strB (Lib.cut l sep).1), .string (strB (Lib.cut l sep).2.1), .bool (Lib.cut l sep).2.2]) w) := by
  obtain ⟨m, hm⟩ := hm w (Below.refl _ _)
  refine (Any.strings_Cut Tryd.lays145 (strB l) (strB sep) m w (by rw [strB_size]; omega) hm).mono ?_
  rintro e w' ⟨rfl, n, rfl⟩
  have e1 : (strB l).data.toList = l := by simp [strB]
  have e2 : (strB sep).data.toList = sep := by simp [strB]
  rw [e1, e2]
  exact ⟨rfl, (Below.refl _ _).drewN' n⟩
theorem index_tw (c : UInt8) (l : List UInt8) : Lib.index l [c] = if l.dropWhile (· != c) = [] then -1 else ((l.takeWhile (· != c)).length : Int) := by
  induction l with
  | nil => rfl
  | cons b l ih =>
    rw [Lib.index, List.takeWhile_cons, List.dropWhile_cons]
    by_cases h : b = c
    · subst h
      have e : ([b] : List UInt8).isPrefixOf (b :: l) = true := by simp [List.isPrefixOf]
      simp [e]
    · have e : ([c] : List UInt8).isPrefixOf (b :: l) = false := by simp [List.isPrefixOf, Ne.symm h]
      have hb : (b != c) = true := by simpa using h
      rw [e, hb, ih]
      simp only [if_true, Bool.false_eq_true, if_false]
      by_cases hd : l.dropWhile (· != c) = []
      · simp [hd]
      · rw [if_neg hd, if_neg hd]
        have : (((l.takeWhile (· != c)).length : Int) == -1) = false := by rw [beq_eq_false_iff_ne]; omega
        rw [this]; simp
theorem cut_one (c : UInt8) (l : List UInt8) : Lib.cut l [c] = (l.takeWhile (· != c), (l.dropWhile (· != c)).tail, !(l.dropWhile (· != c)).isEmpty) := by
  unfold Lib.cut
  rw [index_tw]
  by_cases hd : l.dropWhile (· != c) = []
  · have : ¬ (0 : Int) ≤ -1 := by decide
    rw [if_pos hd, if_neg this, tw_none c l hd, hd]; rfl
  · rw [if_neg hd, if_pos (by omega)]
    have e1 : (((l.takeWhile (· != c)).length : Nat) : Int).toNat = (l.takeWhile (· != c)).length := by omega
    have h3 : (l.dropWhile (· != c)).isEmpty = false := by simpa using hd
    rw [e1, take_tw, h3, show [c].length = 1 from rfl, drop_tw1]; rfl
theorem cut_byte (c : UInt8) (l : List UInt8) (hl : l.length ≤ 4000000000) (B : Nat) (w : World) (hm : MaxAt B w) :
    Calls Tryd.prog 66 #[.string (strB l), .string (strB [c])] w (RetV (.tuple #[.string (strB (l.takeWhile (· != c))), .string (strB (l.dropWhile (· != c)).tail), .bool (!(l.dropWhile (· != c)).isEmpty)]) w) := by
  have := cut_call l [c] hl B w hm
  rwa [cut_one] at this
/-- The label and what follows it. -/
def headP (l : List UInt8) : List UInt8 × List UInt8 := if (Lib.cut l [58, 32]).2.2 then ((Lib.cut l [58, 32]).1, (Lib.cut l [58, 32]).2.1) else ([], l)
theorem parseP_eq (l : List UInt8) : parseP l = parseA (headP l).1 (headP l).2 := by
  unfold parseP headP
  split <;> rfl
theorem cut_len (l sep : List UInt8) : (Lib.cut l sep).1.length ≤ l.length ∧ (Lib.cut l sep).2.1.length ≤ l.length := by
  unfold Lib.cut
  split
  · exact ⟨by simp; omega, by simp⟩
  · exact ⟨Nat.le_refl _, by simp⟩
theorem headP_len (l : List UInt8) : (headP l).2.length ≤ l.length := by
  unfold headP
  split
  · exact (cut_len l _).2
  · exact Nat.le_refl _
theorem keep2 {W : World} {p : Addr} {u : Value} {g : Nat} {a b : Option Value} (hp : p.block ≠ g) (h : W.cell? ⟨g, 0, none⟩ = a ∧ W.cell? ⟨g, 1, none⟩ = b) : (W.setCell p u).cell? ⟨g, 0, none⟩ = a ∧ (W.setCell p u).cell? ⟨g, 1, none⟩ = b :=
  ⟨(World.cell?_setCell_other W p _ u (fun e => hp (congrArg Addr.block e))).trans h.1, (World.cell?_setCell_other W p _ u (fun e => hp (congrArg Addr.block e))).trans h.2⟩
theorem below5 {w W : World} {a b c d e : Value} (h : Below w.heap.size w W) :
    Below w.heap.size w (((((W.setCell ⟨w.heap.size, 0, none⟩ a).setCell ⟨w.heap.size, 1, none⟩ b).setCell ⟨w.heap.size, 2, none⟩ c).setCell ⟨w.heap.size, 3, none⟩ d).setCell ⟨w.heap.size, 4, none⟩ e) :=
  ((((h.setCell (p := ⟨w.heap.size, 0, none⟩) (Nat.le_refl _) a).setCell (p := ⟨w.heap.size, 1, none⟩) (Nat.le_refl _) b).setCell (p := ⟨w.heap.size, 2, none⟩) (Nat.le_refl _) c).setCell (p := ⟨w.heap.size, 3, none⟩) (Nat.le_refl _) d).setCell (p := ⟨w.heap.size, 4, none⟩) (Nat.le_refl _) e
theorem strB_nil : strB [] = ByteArray.empty := rfl
theorem fn_le (o : Option IRow) (n : List UInt8) (h : o = namedI n) : (o.getD irow0).fn ≤ 255 ∧ (o.getD irow0).arg ≤ 255 := by
  cases ho : o with
  | none => decide
  | some r =>
    rw [ho] at h
    have hm : r ∈ tabF ++ tabO := List.mem_of_find?_eq_some h.symm
    rcases List.mem_append.1 hm with hm | hm
    · have := tabF_ok r hm; simp; omega
    · have := tabO_ok r hm; simp; omega
set_option maxRecDepth 100000 in
set_option maxHeartbeats 4000000 in
theorem pRead1 (l : List UInt8) (hl : l.length ≤ 4000000000) (B : Nat) (w : World) (hL : Laid5 B w) (hm : MaxAt B w) (hB : B ≤ w.heap.size) :
    Calls Tryd.prog 52 #[.string (strB l)] w (RetV (.agg (lineC (parseP l))) w) := by
  have S := S6.start hL hm hB
  have HB := Lib.hid hB
  have b0 := Blk.new w 27 #[.string { data := #[] }, .int .u8 0, .int .i32 0, .string { data := #[] }, .string { data := #[] }]
  have S0 := S.alloc (.cells #[.string { data := #[] }, .int .u8 0, .int .i32 0, .string { data := #[] }, .string { data := #[] }] 27)
  obtain ⟨W0, hW0⟩ : ∃ W0, w.alloc (.cells #[.string { data := #[] }, .int .u8 0, .int .i32 0, .string { data := #[] }, .string { data := #[] }] 27) = W0 := ⟨_, rfl⟩
  rw [hW0] at b0 S0
  have HC := Lib.hid (cut_call l [58, 32] hl B W0 S0.m)
  rw [show strB [58, 32] = { data := #[58, 32] } from rfl] at HC
  have hhl := headP_len l
  have hhead : headP l = if (Lib.cut l [58, 32]).2.2 then ((Lib.cut l [58, 32]).1, (Lib.cut l [58, 32]).2.1) else ([], l) := rfl
  rw [parseP_eq]
  generalize (Lib.cut l [58, 32]).2.2 = hit at *
  generalize (Lib.cut l [58, 32]).1 = c1 at *
  generalize (Lib.cut l [58, 32]).2.1 = c2 at *
  generalize headP l = hp at *
  obtain ⟨lab, t⟩ := hp
  simp only at hhl ⊢
  clear hL hm hB S
  have HCT := Lib.hid (fun w hm => cut_byte 32 t (by omega) B w hm)
  have hdt : (t.dropWhile (· != 32)).tail.length ≤ t.length := by
    have := (List.dropWhile_sublist (p := (· != 32)) (l := t)).length_le
    rw [List.length_tail]; omega
  have HCF := Lib.hid (fun w hm => cut_byte 45 (t.dropWhile (· != 32)).tail (by omega) B w hm)
  have HNm := Lib.hid (fun w h1 h2 => pNamed (strB (t.takeWhile (· != 32))) B w h1 h2)
  rw [show (strB (t.takeWhile (· != 32))).data.toList = t.takeWhile (· != 32) by simp [strB]] at HNm
  obtain ⟨hf1, hf2⟩ := fn_le _ _ (rfl : namedI (t.takeWhile (· != 32)) = _)
  have r1 : t.dropWhile (· != 32) = [] → parseA lab t = ⟨lab, ((namedI (t.takeWhile (· != 32))).getD irow0).fn, ((namedI (t.takeWhile (· != 32))).getD irow0).arg, [], []⟩ := fun h => by
    unfold parseA; simp only [h]
  have r2 : ∀ c o v, t.dropWhile (· != 32) = c :: o → Lib.parseIntB 32 o = .ok v → parseA lab t = ⟨lab, ((namedI (t.takeWhile (· != 32))).getD irow0).fn, v, [], []⟩ := fun c o v h h2 => by
    unfold parseA; simp only [h, h2]
  have r3 : ∀ c o, t.dropWhile (· != 32) = c :: o → (∀ v, Lib.parseIntB 32 o ≠ .ok v) → parseA lab t = ⟨lab, ((namedI (t.takeWhile (· != 32))).getD irow0).fn, ((namedI (t.takeWhile (· != 32))).getD irow0).arg, o.takeWhile (· != 45), (o.dropWhile (· != 45)).tail⟩ := fun c o h h2 => by
    unfold parseA; simp only [h]
  unfold instR at HNm
  generalize (namedI (t.takeWhile (· != 32))).isSome = yb at *
  generalize (namedI (t.takeWhile (· != 32))).getD irow0 = y at *
  rw [show strB [32] = { data := #[32] } from rfl] at HCT
  rw [show strB [45] = { data := #[45] } from rfl] at HCF
  generalize hNM : strB (t.takeWhile (· != 32)) = NM at *
  clear hNM
  generalize t.dropWhile (· != 32) = D at *
  generalize parseA lab t = res at *
  have R1 := Lib.hid r1
  have R2 := Lib.hid r2
  have R3 := Lib.hid r3
  clear r1 r2 r3
  go_enter Tryd.func52, Tryd.ntmps52
  cases hit
  · simp only [Bool.false_eq_true, if_false, Prod.mk.injEq] at hhead
    obtain ⟨rfl, rfl⟩ := hhead
    go_upto_region 4 with (go_at_call 66; refine HC.out.mono ?_; rintro e w1 ⟨rfl, hb1⟩
                           have S1 := S0.call hb1
                           have b1 := b0.call hb1)
    obtain ⟨W1, hW1⟩ : ∃ W1, w1 = W1 := ⟨_, rfl⟩
    rw [hW1] at S1 b1
    simp only [hW1]
    clear hW1 S0 b0 hW0
    have hm1 := S1.m
    have e00 := b1.cell 0
    have e01 := b1.cell 1
    have e02 := b1.cell 2
    have e03 := b1.cell 3
    have e04 := b1.cell 4
    simp at e00 e01 e02 e03 e04
    go_upto_region 6 with (first
      | (go_at_call 66; refine (HCT.out _ hm1).mono ?_; rintro e w2 ⟨rfl, hb2⟩
         have S2 := S1.call hb2
         have b2 := b1.call hb2
         have l2 := S2.l
         have B2 := S2.b
         have m2 := S2.m)
      | (go_at_call 67; refine (HNm.out _ l2 B2).mono ?_; rintro e w3 ⟨rfl, hb3⟩
         have S3 := S2.call hb3
         have b3 := b2.call hb3))
    have S4 := S3.alloc (.cells #[.int .u8 y.fn, .int .i32 y.arg] 59)
    have b4 := b3.alloc (.cells #[.int .u8 y.fn, .int .i32 y.arg] 59)
    have y4 := Blk.new w3 59 #[.int .u8 y.fn, .int .i32 y.arg]
    obtain ⟨W4, hW4⟩ : ∃ W4, w3.alloc (.cells #[.int .u8 y.fn, .int .i32 y.arg] 59) = W4 := ⟨_, rfl⟩
    rw [hW4] at S4 b4 y4
    simp only [hW4]
    have hlt3 := b3.lt
    have hne3 : w.heap.size ≠ w3.heap.size := by omega
    have f00 := b4.cell 0
    have f01 := b4.cell 1
    have f02 := b4.cell 2
    have f03 := b4.cell 3
    have f04 := b4.cell 4
    simp at f00 f01 f02 f03 f04
    have g00 := y4.cell 0
    have g01 := y4.cell 1
    simp at g00 g01
    have h00 := b4.frozen 0
    have h01 := b4.frozen 1
    have h02 := b4.frozen 2
    have h03 := b4.frozen 3
    have h04 := b4.frozen 4
    clear S1 b1 S2 b2 S3 b3 hb1 hb2 hb3 e00 e01 e02 e03 e04 hm1 HC
    go_region_held3 (fun w' => w'.cell? ⟨w3.heap.size, 0, none⟩ = some (.int .u8 y.fn) ∧ w'.cell? ⟨w3.heap.size, 1, none⟩ = some (.int .i32 y.arg)) (first | exact ⟨g00, g01⟩ | exact keep2 hne3 ⟨g00, g01⟩ | exact keep2 hne3 (keep2 hne3 ⟨g00, g01⟩)) (fail)
    have S5 := ((S4.set HB.out (p := ⟨w.heap.size, 1, none⟩) (Nat.le_refl _) (.int .u8 y.fn)).set HB.out (p := ⟨w.heap.size, 2, none⟩) (Nat.le_refl _) (.int .i32 y.arg)).drew
    have b5 := ((b4.set_ 1 (.int .u8 y.fn)).set_ 2 (.int .i32 y.arg)).drew
    obtain ⟨W5, hW5⟩ : ∃ W5, ((W4.setCell ⟨w.heap.size, 1, none⟩ (.int .u8 y.fn)).setCell ⟨w.heap.size, 2, none⟩ (.int .i32 y.arg)).drew = W5 := ⟨_, rfl⟩
    rw [hW5] at S5 b5
    simp only [hW5]
    simp at b5
    clear S4 b4 y4 hW5 f00 f01 f02 f03 f04 g00 g01 h00 h01 h02 h03 h04 hW4
    have f00 := b5.cell 0
    have f01 := b5.cell 1
    have f02 := b5.cell 2
    have f03 := b5.cell 3
    have f04 := b5.cell 4
    simp at f00 f01 f02 f03 f04
    have h00 := b5.frozen 0
    have h01 := b5.frozen 1
    have h02 := b5.frozen 2
    have h03 := b5.frozen 3
    have h04 := b5.frozen 4
    have hS5 := Lib.hid S5
    have hm5 := hS5.out.m
    clear S5
    cases D with
    | nil =>
      have hr := R1.out rfl
      have HRES := Lib.hid hr
      clear hr
      go_wp2
      refine bodyPost_ret (v := .agg #[.string ({ data := #[] }), .int .u8 y.fn, .int .i32 y.arg, .string { data := #[] }, .string { data := #[] }]) (by simp [results, Tryd.results52, go_sem, *]) rfl ⟨by rw [HRES.out]; rfl, below5 hS5.out.k⟩
    | cons c o =>
      simp only [List.isEmpty_cons, Bool.not_false, List.tail_cons] at *
      have hol : (strB o).size ≤ 281474976710656 := by rw [strB_size]; omega
      have hlay := hS5.out.l.1
      have eo : (strB o).data.toList = o := by simp [strB]
      by_cases hp : ∃ v, Lib.parseIntB 32 o = .ok v
      · obtain ⟨v, hp⟩ := hp
        have hr := R2.out c o v rfl hp
        have HRES := Lib.hid hr
        have hvb := Lib.parseIntB_bounds hp
        have HP := Lib.hid (parse_ok (strB o) v W5 hol (by rw [eo]; exact hp))
        clear hr hp
        have hw : wrap32 v = v := by unfold wrap32; omega
        generalize strB o = SO at *
        go_wp2_with (go_at_call 68; refine HP.out.mono ?_; rintro e w6 ⟨rfl, hb6⟩
                     have hS6 := Lib.hid (hS5.out.call hb6)
                     have b6 := b5.call hb6
                     have p00 := b6.cell 0
                     have p01 := b6.cell 1
                     have p02 := b6.cell 2
                     have p03 := b6.cell 3
                     have p04 := b6.cell 4
                     simp at p00 p01 p02 p03 p04
                     have q00 := b6.frozen 0
                     have q01 := b6.frozen 1
                     have q02 := b6.frozen 2
                     have q03 := b6.frozen 3
                     have q04 := b6.frozen 4
                     )
        refine bodyPost_ret (v := .agg #[.string ({ data := #[] }), .int .u8 y.fn, .int .i32 v, .string { data := #[] }, .string { data := #[] }]) (by simp [results, Tryd.results52, go_sem, *]) rfl ⟨by rw [HRES.out]; rfl, below5 (hS6.out.k.setCell (p := ⟨w.heap.size, 2, none⟩) (Nat.le_refl _) _)⟩
      · have hp' : ∀ v, Lib.parseIntB 32 o ≠ .ok v := fun v h => hp ⟨v, h⟩
        have hr := R3.out c o rfl hp'
        have HRES := Lib.hid hr
        have HP := Lib.hid (parse_no B (strB o) W5 hol hlay (by rw [eo]; exact hp'))
        clear hr hp hp'
        have HCF2 := Lib.hid (fun w hm => HCF.out w hm)
        clear HCF
        generalize hST : strB (o.takeWhile (· != 45)) = ST at *
        generalize hSF : strB (o.dropWhile (· != 45)).tail = SF at *
        generalize strB o = SO at *
        go_upto_region 14 with (first
          | (go_at_call 68; refine HP.out.mono ?_; rintro e w6 ⟨⟨V6, N6, rfl⟩, hb6⟩
             have hS6 := Lib.hid (hS5.out.call hb6)
             have hm6 := hS6.out.m
             have b6 := b5.call hb6)
          | (go_at_call 66; refine (HCF2.out _ hm6).mono ?_; rintro e w7 ⟨rfl, hb7⟩
             have hS7 := Lib.hid (hS6.out.call hb7)
             have b7 := b6.call hb7
             have p00 := b7.cell 0
             have p01 := b7.cell 1
             have p02 := b7.cell 2
             have p03 := b7.cell 3
             have p04 := b7.cell 4
             simp at p00 p01 p02 p03 p04
             have q00 := b7.frozen 0
             have q01 := b7.frozen 1
             have q02 := b7.frozen 2
             have q03 := b7.frozen 3
             have q04 := b7.frozen 4
             ))
        have k8 := (hS7.out.k.setCell (p := ⟨w.heap.size, 3, none⟩) (Nat.le_refl _) (.string ST)).setCell (p := ⟨w.heap.size, 4, none⟩) (Nat.le_refl _) (.string SF)
        have b8 := (b7.set_ 3 (.string ST)).set_ 4 (.string SF)
        obtain ⟨W8, hW8⟩ : ∃ W8, ((w7.setCell ⟨w.heap.size, 3, none⟩ (.string ST)).setCell ⟨w.heap.size, 4, none⟩ (.string SF)) = W8 := ⟨_, rfl⟩
        rw [hW8] at k8 b8
        simp only [hW8]
        simp at b8
        clear hW8 b7 p00 p01 p02 p03 p04 q00 q01 q02 q03 q04
        have p00 := b8.cell 0
        have p01 := b8.cell 1
        have p02 := b8.cell 2
        have p03 := b8.cell 3
        have p04 := b8.cell 4
        simp at p00 p01 p02 p03 p04
        have q00 := b8.frozen 0
        have q01 := b8.frozen 1
        have q02 := b8.frozen 2
        have q03 := b8.frozen 3
        have q04 := b8.frozen 4
        have hSTF := Lib.hid (And.intro hST hSF)
        clear hST hSF
        go_wp2
        refine bodyPost_ret (v := .agg #[.string ({ data := #[] }), .int .u8 y.fn, .int .i32 y.arg, .string ST, .string SF]) (by simp [results, Tryd.results52, go_sem, *]) rfl ⟨by rw [HRES.out, ← hSTF.out.1, ← hSTF.out.2]; rfl, below5 k8⟩
  · simp only [if_true, Prod.mk.injEq] at hhead
    obtain ⟨rfl, rfl⟩ := hhead
    go_upto_region 4 with (go_at_call 66; refine HC.out.mono ?_; rintro e w1 ⟨rfl, hb1⟩
                           have q0 := (b0.call hb1).cell 0
                           have q1 := (b0.call hb1).frozen 0
                           have S1 := (S0.call hb1).set HB.out (p := ⟨w.heap.size, 0, none⟩) (Nat.le_refl _) (.string (strB lab))
                           have b1 := (b0.call hb1).set_ 0 (.string (strB lab)))
    obtain ⟨W1, hW1⟩ : ∃ W1, w1.setCell ⟨w.heap.size, 0, none⟩ (.string (strB lab)) = W1 := ⟨_, rfl⟩
    rw [hW1] at S1 b1
    simp only [hW1]
    clear hW1 S0 b0 hW0
    have hm1 := S1.m
    have e00 := b1.cell 0
    have e01 := b1.cell 1
    have e02 := b1.cell 2
    have e03 := b1.cell 3
    have e04 := b1.cell 4
    simp at e00 e01 e02 e03 e04
    go_upto_region 6 with (first
      | (go_at_call 66; refine (HCT.out _ hm1).mono ?_; rintro e w2 ⟨rfl, hb2⟩
         have S2 := S1.call hb2
         have b2 := b1.call hb2
         have l2 := S2.l
         have B2 := S2.b
         have m2 := S2.m)
      | (go_at_call 67; refine (HNm.out _ l2 B2).mono ?_; rintro e w3 ⟨rfl, hb3⟩
         have S3 := S2.call hb3
         have b3 := b2.call hb3))
    have S4 := S3.alloc (.cells #[.int .u8 y.fn, .int .i32 y.arg] 59)
    have b4 := b3.alloc (.cells #[.int .u8 y.fn, .int .i32 y.arg] 59)
    have y4 := Blk.new w3 59 #[.int .u8 y.fn, .int .i32 y.arg]
    obtain ⟨W4, hW4⟩ : ∃ W4, w3.alloc (.cells #[.int .u8 y.fn, .int .i32 y.arg] 59) = W4 := ⟨_, rfl⟩
    rw [hW4] at S4 b4 y4
    simp only [hW4]
    have hlt3 := b3.lt
    have hne3 : w.heap.size ≠ w3.heap.size := by omega
    have f00 := b4.cell 0
    have f01 := b4.cell 1
    have f02 := b4.cell 2
    have f03 := b4.cell 3
    have f04 := b4.cell 4
    simp at f00 f01 f02 f03 f04
    have g00 := y4.cell 0
    have g01 := y4.cell 1
    simp at g00 g01
    have h00 := b4.frozen 0
    have h01 := b4.frozen 1
    have h02 := b4.frozen 2
    have h03 := b4.frozen 3
    have h04 := b4.frozen 4
    clear S1 b1 S2 b2 S3 b3 hb1 hb2 hb3 e00 e01 e02 e03 e04 hm1 HC
    go_region_held3 (fun w' => w'.cell? ⟨w3.heap.size, 0, none⟩ = some (.int .u8 y.fn) ∧ w'.cell? ⟨w3.heap.size, 1, none⟩ = some (.int .i32 y.arg)) (first | exact ⟨g00, g01⟩ | exact keep2 hne3 ⟨g00, g01⟩ | exact keep2 hne3 (keep2 hne3 ⟨g00, g01⟩)) (fail)
    have S5 := ((S4.set HB.out (p := ⟨w.heap.size, 1, none⟩) (Nat.le_refl _) (.int .u8 y.fn)).set HB.out (p := ⟨w.heap.size, 2, none⟩) (Nat.le_refl _) (.int .i32 y.arg)).drew
    have b5 := ((b4.set_ 1 (.int .u8 y.fn)).set_ 2 (.int .i32 y.arg)).drew
    obtain ⟨W5, hW5⟩ : ∃ W5, ((W4.setCell ⟨w.heap.size, 1, none⟩ (.int .u8 y.fn)).setCell ⟨w.heap.size, 2, none⟩ (.int .i32 y.arg)).drew = W5 := ⟨_, rfl⟩
    rw [hW5] at S5 b5
    simp only [hW5]
    simp at b5
    clear S4 b4 y4 hW5 f00 f01 f02 f03 f04 g00 g01 h00 h01 h02 h03 h04 hW4
    have f00 := b5.cell 0
    have f01 := b5.cell 1
    have f02 := b5.cell 2
    have f03 := b5.cell 3
    have f04 := b5.cell 4
    simp at f00 f01 f02 f03 f04
    have h00 := b5.frozen 0
    have h01 := b5.frozen 1
    have h02 := b5.frozen 2
    have h03 := b5.frozen 3
    have h04 := b5.frozen 4
    have hS5 := Lib.hid S5
    have hm5 := hS5.out.m
    clear S5
    cases D with
    | nil =>
      have hr := R1.out rfl
      have HRES := Lib.hid hr
      clear hr
      go_wp2
      refine bodyPost_ret (v := .agg #[.string (strB lab), .int .u8 y.fn, .int .i32 y.arg, .string { data := #[] }, .string { data := #[] }]) (by simp [results, Tryd.results52, go_sem, *]) rfl ⟨by rw [HRES.out]; rfl, below5 hS5.out.k⟩
    | cons c o =>
      simp only [List.isEmpty_cons, Bool.not_false, List.tail_cons] at *
      have hol : (strB o).size ≤ 281474976710656 := by rw [strB_size]; omega
      have hlay := hS5.out.l.1
      have eo : (strB o).data.toList = o := by simp [strB]
      by_cases hp : ∃ v, Lib.parseIntB 32 o = .ok v
      · obtain ⟨v, hp⟩ := hp
        have hr := R2.out c o v rfl hp
        have HRES := Lib.hid hr
        have hvb := Lib.parseIntB_bounds hp
        have HP := Lib.hid (parse_ok (strB o) v W5 hol (by rw [eo]; exact hp))
        clear hr hp
        have hw : wrap32 v = v := by unfold wrap32; omega
        generalize strB o = SO at *
        go_wp2_with (go_at_call 68; refine HP.out.mono ?_; rintro e w6 ⟨rfl, hb6⟩
                     have hS6 := Lib.hid (hS5.out.call hb6)
                     have b6 := b5.call hb6
                     have p00 := b6.cell 0
                     have p01 := b6.cell 1
                     have p02 := b6.cell 2
                     have p03 := b6.cell 3
                     have p04 := b6.cell 4
                     simp at p00 p01 p02 p03 p04
                     have q00 := b6.frozen 0
                     have q01 := b6.frozen 1
                     have q02 := b6.frozen 2
                     have q03 := b6.frozen 3
                     have q04 := b6.frozen 4
                     )
        refine bodyPost_ret (v := .agg #[.string (strB lab), .int .u8 y.fn, .int .i32 v, .string { data := #[] }, .string { data := #[] }]) (by simp [results, Tryd.results52, go_sem, *]) rfl ⟨by rw [HRES.out]; rfl, below5 (hS6.out.k.setCell (p := ⟨w.heap.size, 2, none⟩) (Nat.le_refl _) _)⟩
      · have hp' : ∀ v, Lib.parseIntB 32 o ≠ .ok v := fun v h => hp ⟨v, h⟩
        have hr := R3.out c o rfl hp'
        have HRES := Lib.hid hr
        have HP := Lib.hid (parse_no B (strB o) W5 hol hlay (by rw [eo]; exact hp'))
        clear hr hp hp'
        have HCF2 := Lib.hid (fun w hm => HCF.out w hm)
        clear HCF
        generalize hST : strB (o.takeWhile (· != 45)) = ST at *
        generalize hSF : strB (o.dropWhile (· != 45)).tail = SF at *
        generalize strB o = SO at *
        go_upto_region 14 with (first
          | (go_at_call 68; refine HP.out.mono ?_; rintro e w6 ⟨⟨V6, N6, rfl⟩, hb6⟩
             have hS6 := Lib.hid (hS5.out.call hb6)
             have hm6 := hS6.out.m
             have b6 := b5.call hb6)
          | (go_at_call 66; refine (HCF2.out _ hm6).mono ?_; rintro e w7 ⟨rfl, hb7⟩
             have hS7 := Lib.hid (hS6.out.call hb7)
             have b7 := b6.call hb7
             have p00 := b7.cell 0
             have p01 := b7.cell 1
             have p02 := b7.cell 2
             have p03 := b7.cell 3
             have p04 := b7.cell 4
             simp at p00 p01 p02 p03 p04
             have q00 := b7.frozen 0
             have q01 := b7.frozen 1
             have q02 := b7.frozen 2
             have q03 := b7.frozen 3
             have q04 := b7.frozen 4
             ))
        have k8 := (hS7.out.k.setCell (p := ⟨w.heap.size, 3, none⟩) (Nat.le_refl _) (.string ST)).setCell (p := ⟨w.heap.size, 4, none⟩) (Nat.le_refl _) (.string SF)
        have b8 := (b7.set_ 3 (.string ST)).set_ 4 (.string SF)
        obtain ⟨W8, hW8⟩ : ∃ W8, ((w7.setCell ⟨w.heap.size, 3, none⟩ (.string ST)).setCell ⟨w.heap.size, 4, none⟩ (.string SF)) = W8 := ⟨_, rfl⟩
        rw [hW8] at k8 b8
        simp only [hW8]
        simp at b8
        clear hW8 b7 p00 p01 p02 p03 p04 q00 q01 q02 q03 q04
        have p00 := b8.cell 0
        have p01 := b8.cell 1
        have p02 := b8.cell 2
        have p03 := b8.cell 3
        have p04 := b8.cell 4
        simp at p00 p01 p02 p03 p04
        have q00 := b8.frozen 0
        have q01 := b8.frozen 1
        have q02 := b8.frozen 2
        have q03 := b8.frozen 3
        have q04 := b8.frozen 4
        have hSTF := Lib.hid (And.intro hST hSF)
        clear hST hSF
        go_wp2
        refine bodyPost_ret (v := .agg #[.string (strB lab), .int .u8 y.fn, .int .i32 y.arg, .string ST, .string SF]) (by simp [results, Tryd.results52, go_sem, *]) rfl ⟨by rw [HRES.out, ← hSTF.out.1, ← hSTF.out.2]; rfl, below5 k8⟩
end Go.Proofs.YtljeecocbcffcaaDoor
