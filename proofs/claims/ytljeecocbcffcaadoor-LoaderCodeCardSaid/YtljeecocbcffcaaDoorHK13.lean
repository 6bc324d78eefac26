/- Texts that belong together, joined: what each one holds is told ahead of it. -/
import Derived.Test.YtljeecocbcffcaaDoorHK12
import Derived.Test.YtljeecocbcffcaaDoorHK9
import Derived.Test.YtljeecocbcffcaaDoorHK1
/- The words of a command, taken by the loader's closure, walked. -/
namespace Go.Proofs.YtljeecocbcffcaaDoor
open Go.RowKit
set_option linter.unusedSimpArgs false
set_option linter.unusedVariables false

theorem u32_or (k x y : Nat) (hx : x < 2 ^ k) (h : 2 ^ k * y + x < 4294967296) : bits .or .u32 (x : Int) ((2 ^ k * y : Nat) : Int) = ((2 ^ k * y + x : Nat) : Int) := by
  have e32 : ((2 ^ 32 : Nat) : Int) = 4294967296 := by decide
  have hxl : x < 4294967296 := by omega
  have hyl : 2 ^ k * y < 4294967296 := by omega
  have n1 : ((x : Int) % ((2 ^ 32 : Nat) : Int)).toNat = x := by rw [e32]; omega
  have n2 : (((2 ^ k * y : Nat) : Int) % ((2 ^ 32 : Nat) : Int)).toNat = 2 ^ k * y := by rw [e32]; omega
  have key : (BitVec.ofInt 32 (x : Int) ||| BitVec.ofInt 32 ((2 ^ k * y : Nat) : Int)).toNat = 2 ^ k * y + x := by
    rw [BitVec.toNat_or, BitVec.toNat_ofInt, BitVec.toNat_ofInt, n1, n2, Nat.or_comm, Nat.two_pow_add_eq_or_of_lt hx]
  show IntKind.u32.wrap ((BitVec.ofInt 32 (x : Int) ||| BitVec.ofInt 32 ((2 ^ k * y : Nat) : Int)).toNat : Nat) = ((2 ^ k * y + x : Nat) : Int)
  rw [key, IntKind.wrap_u32]
  omega
/-- What the closure returns, and where it goes on. -/
def RetWord (v : Int) (pa : Nat) (z : Int) (w : World) (e : Ending) (w' : World) : Prop :=
  e = .returned (.int .u32 v) ∧ Blk w' pa 3 #[.int .i64 z] ∧ KeptB w w' (some pa) ∧ Below pa w w'
set_option maxRecDepth 100000 in
set_option maxHeartbeats 4000000 in
theorem lWord (l : List UInt8) (at_ : Nat) (h4 : at_ + 4 ≤ l.length) (hl : l.length ≤ 1000000000) (A : Option Addr) (c : Nat) (pb pa : Nat) (w : World) (hpb : Blk w pb 22 #[.slice A l.length c]) (hpa : Blk w pa 3 #[.int .i64 at_])
    (hr : Reads w w.heap.size 1 A l.length (bcells l)) :
    Calls Tryd.prog 44 #[.pointer (some ⟨pb, 0, none⟩), .pointer (some ⟨pa, 0, none⟩)] w (RetWord (numW (l.drop at_) : Nat) pa ((at_ : Int) + 4) w) := by
  obtain ⟨x0, x1, x2, x3, h0, h1, h2, h3, hN⟩ := numW_cells (l := l.drop at_) (by rw [List.length_drop]; omega)
  rw [List.getElem?_drop] at h0 h1 h2 h3
  obtain ⟨b, off, rfl, hb, hc⟩ := hr.addr (by omega) (by omega)
  have c0 := hc _ _ (bcells_get h0)
  have c1 := hc _ _ (bcells_get h1)
  have c2 := hc _ _ (bcells_get h2)
  have c3 := hc _ _ (bcells_get h3)
  rw [Nat.add_zero] at c0
  have z0 : x0.toNat < 256 := UInt8.toNat_lt_size _
  have z1 : x1.toNat < 256 := UInt8.toNat_lt_size _
  have z2 : x2.toNat < 256 := UInt8.toNat_lt_size _
  have z3 : x3.toNat < 256 := UInt8.toNat_lt_size _
  rw [hN]
  have hat0 : (0 : Int) ≤ at_ := by omega
  have l0 : (at_ : Int) < (l.length : Nat) := by omega
  have l1 : (at_ : Int) + 1 < (l.length : Nat) := by omega
  have l2 : (at_ : Int) + 2 < (l.length : Nat) := by omega
  have l3 : (at_ : Int) + 3 < (l.length : Nat) := by omega
  have e0 := hpb.cell 0
  have e1 := hpa.cell 0
  have f1 := hpa.frozen 0
  simp at e0 e1
  have hlb : (l.length : Int) ≤ 1000000000 := by omega
  clear hc hr h0 h1 h2 h3 hN h4
  generalize l.length = n at *
  generalize x0.toNat = y0 at *
  generalize x1.toNat = y1 at *
  generalize x2.toNat = y2 at *
  generalize x3.toNat = y3 at *
  have hv : bits .or .u32 (bits .or .u32 (bits .or .u32 (y0 : Int) ((y1 : Int) * 256)) ((y2 : Int) * 65536)) ((y3 : Int) * 16777216) = ((y0 + 256 * y1 + 65536 * y2 + 16777216 * y3 : Nat) : Int) := by
    have o1 := u32_or 8 y0 y1 (by omega) (by omega)
    have o2 := u32_or 16 (y0 + 256 * y1) y2 (by omega) (by omega)
    have o3 := u32_or 24 (y0 + 256 * y1 + 65536 * y2) y3 (by omega) (by omega)
    rw [show (y1 : Int) * 256 = ((2 ^ 8 * y1 : Nat) : Int) by omega, o1, show (2 ^ 8 * y1 + y0 : Nat) = y0 + 256 * y1 by omega]
    rw [show (y2 : Int) * 65536 = ((2 ^ 16 * y2 : Nat) : Int) by omega, o2, show (2 ^ 16 * y2 + (y0 + 256 * y1) : Nat) = y0 + 256 * y1 + 65536 * y2 by omega]
    rw [show (y3 : Int) * 16777216 = ((2 ^ 24 * y3 : Nat) : Int) by omega, o3]
    congr 1; omega
  have HV := Lib.hid hv
  clear hv
  go_enter Tryd.func44, Tryd.ntmps44
  go_upto_region 1 with (fail)
  go_quiet (fail)
  go_wp2
  go_ret
  refine ⟨by rw [← HV.out]; rfl, ?_, ?_, (below_drewN (Below.refl pa w) nq).setCell (p := ⟨pa, 0, none⟩) (Nat.le_refl pa) _⟩
  · exact (hpa.drewN nq).set_ 0 (.int .i64 ((at_ : Int) + 4))
  · exact ⟨by simp, fun k hk hr => Below.heap_setCell _ _ _ _ (fun e => hr (by rw [e]))⟩
end Go.Proofs.YtljeecocbcffcaaDoor

/- Get of the reference, walked. -/
namespace Go.Proofs.YtljeecocbcffcaaDoor
open Go.RowKit
set_option linter.unusedSimpArgs false
set_option linter.unusedVariables false

theorem Reads.tail {w : World} {B n b off k : Nat} {xs : List Value} (h : Reads w B 1 (some ⟨b, off, none⟩) n xs) (hk : k ≤ n) : Reads w B 1 (some ⟨b, off + k, none⟩) (n - k) (xs.drop k) := by
  refine ⟨by rw [List.length_drop, h.1]; omega, fun hn => ?_⟩
  obtain ⟨ad, e, hb, hc⟩ := h.2 (by omega)
  injection e with e; subst e
  refine ⟨_, rfl, hb, fun j u hu => ?_⟩
  rw [List.getElem?_drop] at hu
  have := hc _ u hu
  have e1 : (⟨b, off, none⟩ : Addr).add (k + j) = (⟨b, off + k, none⟩ : Addr).add j := by
    unfold Addr.add
    simp [Nat.add_assoc]
    split <;> split <;> simp_all
  rw [← e1]; exact this
theorem Reads.pre {w : World} {B n k : Nat} {A : Option Addr} {D : List UInt8} (h : Reads w B 1 A n (bcells D)) (hk : k ≤ n) : Reads w B 1 A k (bcells (D.take k)) := by
  have hl := h.1
  rw [bcells_len] at hl
  refine ⟨by rw [bcells_len, List.length_take]; omega, fun hn => ?_⟩
  obtain ⟨ad, e, hb, hc⟩ := h.2 (by omega)
  refine ⟨ad, e, hb, fun j u hu => hc j u ?_⟩
  have hj := (List.getElem?_eq_some_iff.1 hu).1
  rw [bcells_len, List.length_take] at hj
  have e1 : bcells (D.take k) = (bcells D).take k := by simp [bcells, List.map_take]
  rw [e1, List.getElem?_take_of_lt (by omega)] at hu
  exact hu
theorem KeptB.set {w : World} {g o : Nat} (u : Value) : KeptB w (w.setCell ⟨g, o, none⟩ u) (some g) :=
  ⟨by simp, fun k hk hr => Below.heap_setCell _ _ _ _ (fun e => hr (by rw [e]))⟩
def slen : Value → Nat
  | .slice _ n _ => n
  | _ => 0
set_option maxRecDepth 100000 in
set_option maxHeartbeats 4000000 in
theorem rGet38 (b0 : List UInt8) (hb0 : b0.length ≤ 3000000) (A0 : Option Addr) (c0 : Nat) (hc0 : b0.length ≤ c0) (w : World) (hr0 : Reads w w.heap.size 1 A0 b0.length (bcells b0)) :
    Calls Tryd.prog 22 #[.slice A0 (b0.length : Nat) c0] w (RetGet (getB b0) w) := by
  obtain ⟨i0, hi0, hz0, hz1, hz2⟩ := info_parts byte_info
  obtain ⟨i1, hi1, hy0, hy1, hy2⟩ := info_parts cmd_info
  have HR0 := Lib.hid hr0
  have hrt0 : getB b0 = (getB b0).map fun p => (vals [] ++ p.1, p.2) := by cases getB b0 <;> rfl
  have HRT0 : Hid (getB b0 = (getB b0).map fun p => (vals [] ++ p.1, p.2)) := Lib.hid hrt0
  obtain ⟨RT, hRT⟩ : ∃ RT, getB b0 = RT := ⟨_, rfl⟩
  rw [hRT]
  have HRT0 : Hid (RT = (getB b0).map fun p => (vals [] ++ p.1, p.2)) := Lib.hid (by rw [← hRT]; exact hrt0)
  obtain ⟨N, hN⟩ : ∃ N, b0.length = N := ⟨_, rfl⟩
  have HN := Lib.hid hN
  rw [hN] at hb0 hc0 HR0 ⊢
  clear hr0 hrt0 hRT hN
  go_enter Tryd.func22, Tryd.ntmps22
  go_wp2
  go_loopw [0, 5] (fun x v wr => ∃ (rest : List UInt8) (A : Option Addr) (m c : Nat) (acc : List CmdV), x = .slice A m c ∧ rest.length = m ∧ m ≤ c ∧ acc.length + m ≤ N ∧ Hid (Reads w w.heap.size 1 A m (bcells rest)) ∧
    Hid (RT = (getB rest).map fun p => (vals acc ++ p.1, p.2)) ∧ Hid (OwnL wr w.heap.size v acc) ∧ Hid (Below w.heap.size w wr)) (fun x _ _ => slen x)
  case atStart => exact ⟨b0, A0, N, c0, [], rfl, HN.out, hc0, by simp, HR0, HRT0, Lib.hid OwnL.nil, Lib.hid (Below.refl _ _)⟩
  case round =>
    clear HRT0 HR0
    obtain ⟨rest, A, m, c, acc, rfl, hm, hmc, ham, R, HT, O, K⟩ := hrel
    by_cases h12 : m < 12
    · have h12I : (m : Int) < 12 := by omega
      have hres : Hid (RT = none) := Lib.hid (by rw [HT.out, getB_short (by omega)]; rfl)
      clear HT
      go_wp2
      go_ret3
      rw [hres.out]
      exact RetGet.none_ K.out
    · have h12I : ¬ (m : Int) < 12 := by omega
      have h12J : (12 : Int) ≤ m := by omega
      obtain ⟨b, off, rfl, hb, -⟩ := R.out.addr (by omega) (by omega)
      obtain ⟨ι, F, i0', h0', hFb, hcl⟩ := fam_below wr
      have hz : w.heap.size ≤ wr.heap.size := K.out.size
      have RF : ∀ i, Reads (F i) (F i).heap.size 1 (some ⟨b, off, none⟩) m (bcells rest) := fun i => (R.out.below (K.out.trans ((hFb i).mono hz))).more (Nat.le_trans hz (hFb i).size)
      have RF4 := fun i => (RF i).tail (k := 4) (by omega)
      have RF8 := fun i => (RF i).tail (k := 8) (by omega)
      have hd : ∀ k, (bcells rest).drop k = bcells (rest.drop k) := fun k => by simp [bcells, List.map_drop]
      simp only [hd] at RF4 RF8
      have NF0 := Lib.hid (fun i => rNumber38 rest (by omega) _ c (F i) (by rw [hm]; exact RF i))
      have NF4 := Lib.hid (fun A' c' i (h : Reads (F i) (F i).heap.size 1 A' (m - 4) (bcells (rest.drop 4))) => rNumber38 (rest.drop 4) (by rw [List.length_drop]; omega) A' c' (F i) (by rw [List.length_drop, hm]; exact h))
      have NF8 := Lib.hid (fun A' c' i (h : Reads (F i) (F i).heap.size 1 A' (m - 8) (bcells (rest.drop 8))) => rNumber38 (rest.drop 8) (by rw [List.length_drop]; omega) A' c' (F i) (by rw [List.length_drop, hm]; exact h))
      have HF4 := Lib.hid RF4
      have HF8 := Lib.hid RF8
      simp only [List.length_drop, hm] at NF0 NF4 NF8
      haveI : Nonempty ι := ⟨i0'⟩
      clear RF RF4 RF8 hd
      go_upto_region 3 with (fail)
      refine wp_region_quiet_fam F i0' h0' (by kernel_rfl) (by kernel_rfl) ?_
      repeat (go_big_quiet_step (first
        | (go_at_call 45; (with_reducible refine (NF0.out _).mono ?_); rintro e w6 ⟨rfl, hb6⟩; exact ⟨rfl, hcl _ _ hb6⟩)
        | (go_at_call 45; (with_reducible refine (NF4.out _ _ _ (HF4.out _)).mono ?_); rintro e w6 ⟨rfl, hb6⟩; exact ⟨rfl, hcl _ _ hb6⟩)
        | (go_at_call 45; (with_reducible refine (NF8.out _ _ _ (HF8.out _)).mono ?_); rintro e w6 ⟨rfl, hb6⟩; exact ⟨rfl, hcl _ _ hb6⟩)))
      refine wpQuiet_nil ?_
      intro i
      have K5 := Lib.hid (K.out.trans ((hFb i).mono hz))
      have O5 := Lib.hid (O.out.call (hFb i))
      clear NF0 NF4 NF8 HF4 HF8 hcl O K
      generalize F i = W at *
      clear hFb h0'
      have R12 : Hid (Reads w w.heap.size 1 (if c = 12 then some ⟨b, off, none⟩ else some ⟨b, off + 12, none⟩) (m - 12) (bcells (rest.drop 12))) := Lib.hid (by
        have h := R.out.tail (k := 12) (by omega)
        rw [show (bcells rest).drop 12 = bcells (rest.drop 12) by simp [bcells, List.map_drop]] at h
        by_cases hc : c = 12
        · refine ⟨h.1, fun hn => ?_⟩
          omega
        · rw [if_neg hc]; exact h)
      have hhead : headC rest = (if numW rest = 0 then (if mayC ⟨0, sgn (numW (rest.drop 4)), sgn (numW (rest.drop 8)), []⟩ then some (⟨0, sgn (numW (rest.drop 4)), sgn (numW (rest.drop 8)), []⟩, 12) else none) else if 2 < numW rest then none
        else if m - 12 < numW (rest.drop 8) then none else if mayC ⟨numW rest, sgn (numW (rest.drop 4)), 0, (rest.drop 12).take (numW (rest.drop 8))⟩ then some (⟨numW rest, sgn (numW (rest.drop 4)), 0, (rest.drop 12).take (numW (rest.drop 8))⟩, 12 + numW (rest.drop 8)) else none) := by
        unfold headC
        rw [if_neg (by omega), hm]
      have hk4 := numW_lt rest
      have ha4 := numW_lt (rest.drop 4)
      have hn4 := numW_lt (rest.drop 8)
      have HH := Lib.hid hhead
      have HD : Hid ((rest.drop 12).length = m - 12) := Lib.hid (by rw [List.length_drop, hm])
      have HDD := Lib.hid (fun n => show rest.drop (12 + n) = (rest.drop 12).drop n by rw [List.drop_drop])
      clear hhead
      go_upto_region 5 with (fail)
      clear R hb
      generalize (if c = 12 then some (⟨b, off, none⟩ : Addr) else some ⟨b, off + 12, none⟩) = A12 at *
      have hm2 : m - 12 ≤ c - 12 := by omega
      have hm3 : acc.length + (m - 12) + 12 ≤ N := by omega
      have hmm : m - 12 < m := by omega
      generalize m - 12 = m2 at *
      generalize c - 12 = c2 at *
      generalize numW rest = kN at *
      generalize numW (rest.drop 4) = aN at *
      generalize numW (rest.drop 8) = nN at *
      have hgs := fun (x : CmdL) (j : Nat) => getB_some (b := rest) (c := x) (n := j)
      have hgn := getB_none (b := rest)
      generalize rest.drop 12 = D at *
      have HGS := Lib.hid hgs
      have HGN := Lib.hid hgn
      clear hgs hgn h12 h12I h12J hmc
      by_cases hk2 : 2 < kN
      · have hres : Hid (RT = none) := Lib.hid (by
          rw [HT.out, HGN.out (by rw [HH.out, if_neg (by omega), if_pos hk2])]; rfl)
        have hk2I : (2 : Int) < kN := by omega
        clear HT
        go_wp2
        go_ret3
        rw [hres.out]
        exact RetGet.none_ K5.out
      · have hk2I : ¬ (2 : Int) < kN := by omega
        have hwk : IntKind.u8.wrap (kN : Int) = (kN : Int) := by rw [IntKind.wrap_u8]; omega
        have hwa : wrap32 (aN : Int) = sgn aN := by unfold wrap32 sgn; split <;> omega
        have hwn : wrap32 (nN : Int) = sgn nN := by unfold wrap32 sgn; split <;> omega
        have hmod : (aN : Int) % 4294967296 = aN := by omega
        have hmod2 : (nN : Int) % 4294967296 = nN := by omega
        by_cases hk0 : kN = 0
        · subst hk0
          have hkz : (((0 : Nat) : Int) == 0) = true := rfl
          have hM := Lib.hid (fun w1 => rMay38 0 (sgn aN) (sgn nN) none 0 0 (by decide) (sgn_word aN ha4) w1)
          have hme : mayN 0 (sgn aN) (sgn nN) 0 = mayC ⟨0, sgn aN, sgn nN, []⟩ := rfl
          rw [hme] at hM
          have h1 := HH.out
          rw [if_pos rfl] at h1
          have b1 := Blk.new W 38 #[.int .u8 0, .int .i32 (sgn aN), .int .i32 (sgn nN), .slice none 0 0]
          have K1 := Lib.hid (K5.out.alloc K5.out.size (.cells #[.int .u8 0, .int .i32 (sgn aN), .int .i32 (sgn nN), .slice none 0 0] 38))
          have O1 := Lib.hid (O5.out.alloc (.cells #[.int .u8 0, .int .i32 (sgn aN), .int .i32 (sgn nN), .slice none 0 0] 38))
          simp only [cmdC] at hM
          cases hmy : mayC ⟨0, sgn aN, sgn nN, []⟩ with
          | false =>
            rw [hmy] at h1 hM
            have hres : Hid (RT = none) := Lib.hid (by rw [HT.out, HGN.out (by rw [h1]; rfl)]; rfl)
            clear h1 hmy hme HT HH HGS HGN
            go_wp2_with (go_at_call 18; refine (hM.out _).mono ?_; rintro e w1 ⟨rfl, hb1⟩)
            go_ret3
            rw [hres.out]
            exact RetGet.none_ (K1.out.trans (hb1.mono K1.out.size))
          | true =>
            rw [hmy] at h1 hM
            simp only [if_true] at h1
            have hres : Hid (RT = some (vals acc ++ [⟨0, sgn aN, sgn nN, []⟩], D)) := Lib.hid (by
              rw [HT.out, HGS.out _ _ h1, if_pos rfl, show rest.drop 12 = D from HDD.out 0]; rfl)
            clear h1 hmy hme HT HH HGS HGN
            have haccI : acc.length ≤ 3000000 := by omega
            go_upto_region 17 with (first
              | (go_at_call 18; refine (hM.out _).mono ?_; rintro e w1 ⟨rfl, hb1⟩
                 have K2 := Lib.hid (K1.out.trans (hb1.mono K1.out.size))
                 have O2 := Lib.hid ((O1.out.call hb1).alloc (.cells #[.int .u8 0, .int .i32 (sgn aN), .int .i32 (sgn nN), .slice none 0 0] 38))
                 have K3 := Lib.hid (K2.out.alloc K2.out.size (.cells #[.int .u8 0, .int .i32 (sgn aN), .int .i32 (sgn nN), .slice none 0 0] 38))
                 have bn := Blk.new w1 38 #[.int .u8 0, .int .i32 (sgn aN), .int .i32 (sgn nN), .slice none 0 0]
                 have b2 := b1.call hb1
                 have d0 := b2.cell 0
                 have d1 := b2.cell 1
                 have d2 := b2.cell 2
                 have d3 := b2.cell 3
                 simp at d0 d1 d2 d3
                 clear hb1)
              | (at_builtin; refine wpList_app_own rfl (.tmp 55) (.tmp 57) rfl Tryd.underlying33 hi1 hy0 hy1 hy2 rfl (by decide) O2.out.1 K3.out.size rfl w1.heap.size 1 1 #[.int .u8 0, .int .i32 (sgn aN), .int .i32 (sgn nN), .slice none 0 0] rfl bn rfl (by simp [Value.oneCell']) (by omega) (by omega) ?_; intro v2 w2 hown2 hg2 hb2))
            have K4 := Lib.hid (K3.out.trans hb2)
            have O4 := Lib.hid (O2.out.snoc (x := ⟨0, sgn aN, sgn nN, none, 0, []⟩) hg2 hown2 (Nat.zero_le 255) (sgn_word aN ha4) (sgn_word nN hn4) (World.ownsRow_nil _ _ _ _))
            have R4 := Lib.hid ((R12.out.below K4.out).more K4.out.size)
            clear hown2 hg2 hb2
            go_wp2_with (first
              | (at_builtin; refine wpList_append_any w2 rfl (.tmp 62) (.tmp 63) 22 rfl w.heap.size 5 i0 _ 1 1 Tryd.underlying22 hi0 hz0 hz1 hz2 rfl (by decide) _ 0 [] rfl (World.ownsRow_nil _ _ _ _) w2.heap.size A12 m2 c2 (bcells D) rfl R4.out (bytes_one _) (by unfold maxLen; omega) (by omega) K4.out.size ?_; intro v5 w5 ho5 hg5 hat5
                 have K6 := Lib.hid (K4.out.grown hg5 K4.out.size (fun g e => by cases e))
                 have O6 := Lib.hid (O4.out.grownNil hg5)
                 clear hg5))
            go_ret3
            rw [hres.out]
            have hv : vals acc ++ [⟨0, sgn aN, sgn nN, []⟩] = vals (acc ++ [⟨0, sgn aN, sgn nN, none, 0, []⟩]) := by simp [vals, CmdV.val]
            rw [hv]
            refine RetGet.some_ K6.out O6.out ?_
            rw [HD.out]
            simpa using ho5
        · have hkz : ((kN : Int) == 0) = false := by simp; omega
          by_cases hbig : m2 < nN
          · have hres : Hid (RT = none) := Lib.hid (by
              rw [HT.out, HGN.out (by rw [HH.out, if_neg hk0, if_neg hk2, if_pos hbig])]; rfl)
            have hbI : (m2 : Int) < nN := by omega
            have K1 := Lib.hid (K5.out.alloc K5.out.size (.cells #[.int .u8 kN, .int .i32 (sgn aN), .int .i32 0, .slice none 0 0] 38))
            clear HT HH HGS HGN
            go_wp2
            go_ret3
            rw [hres.out]
            exact RetGet.none_ K1.out
          · have hbI : ¬ (m2 : Int) < nN := by omega
            have hbig' : nN ≤ m2 := by omega
            have hb0I : (0 : Int) ≤ nN := by omega
            have hbcI : (nN : Int) ≤ c2 := by omega
            have hbmI : (nN : Int) ≤ m2 := by omega
            have b1 := Blk.new W 38 #[.int .u8 kN, .int .i32 (sgn aN), .int .i32 0, .slice none 0 0]
            have K1 := Lib.hid (K5.out.alloc K5.out.size (.cells #[.int .u8 kN, .int .i32 (sgn aN), .int .i32 0, .slice none 0 0] 38))
            have O1 := Lib.hid (O5.out.alloc (.cells #[.int .u8 kN, .int .i32 (sgn aN), .int .i32 0, .slice none 0 0] 38))
            have hne1 : ∀ g', u5.ownBlock = some g' → some g' ≠ some W.heap.size := fun g' e e2 => by injection e2 with e2; have := (O5.out.1.lt g' e).2; omega
            have hne2 : ∀ x ∈ acc, ∀ g', (Value.slice x.A x.bytes.length x.c).ownBlock = some g' → some g' ≠ some W.heap.size := fun x hx g' e e2 => by injection e2 with e2; have := ((O5.out.2 x hx).2.2.2.lt g' e).2; omega
            have HNE1 := Lib.hid hne1
            have HNE2 := Lib.hid hne2
            have hgw : w.heap.size ≤ W.heap.size := K5.out.size
            go_upto_region 12 with (fail)
            clear hne1 hne2
            obtain ⟨g, hg⟩ : ∃ g, W.heap.size = g := ⟨_, rfl⟩
            obtain ⟨W1, hW1⟩ : ∃ X, W.alloc (.cells #[.int .u8 kN, .int .i32 (sgn aN), .int .i32 0, .slice none 0 0] 38) = X := ⟨_, rfl⟩
            rw [hW1, hg] at b1
            rw [hW1] at K1 O1
            rw [hg] at HNE1 HNE2 hgw
            rw [hW1, hg]
            have d3 := b1.cell 3
            simp at d3
            have R1 := Lib.hid (((R12.out.below K1.out).more K1.out.size).pre (k := nN) (by omega))
            have z1 : w.heap.size ≤ W1.drew.heap.size := K1.out.size
            have b1d : Blk W1.drew g 38 #[.int .u8 kN, .int .i32 (sgn aN), .int .i32 0, .slice none 0 0] := b1
            have hn9 : 0 + nN ≤ maxLen := by unfold maxLen; omega
            have hn8 : (0 + nN) * 1 ≤ 140737488355328 := by omega
            clear hW1 hg K5 O5
            go_region_law (refine step_append_any _ rfl (.tmp 43) (.tmp 46) 22 rfl w.heap.size 5 i0 _ 1 1 Tryd.underlying22 hi0 hz0 hz1 hz2 rfl (by decide) (.slice none 0 0) 0 [] rfl (World.ownsRow_nil _ _ _ _) _ A12 nN c2 (bcells (D.take nN)) rfl R1.out (bytes_one _) hn9 hn8 z1 ?_
                           intro v3 w3 ho3 hg3 hat3
                           rw [Nat.zero_add] at ho3
                           obtain ⟨A3, c3, rfl⟩ := own_form ho3
                           have b3 := Blk.grown b1d hg3 (by simp [Value.ownBlock])
                           have e3 := b3.cell 3
                           have f3 := b3.frozen 3
                           simp at e3)
            have hg3' : W1.drew.grownBy w3 none := hg3
            have K3 := K1.out.drew.grown hg3' z1 (fun k e => by cases e)
            have K4 := Lib.hid (K3.setCell (p := ⟨g, 3, none⟩) hgw (.slice A3 nN c3))
            have hK3 : KeptB w3 (w3.setCell ⟨g, 3, none⟩ (.slice A3 nN c3)) (some g) := KeptB.set _
            have O4 := Lib.hid ((O1.out.drew.grownNil hg3').kept hK3 HNE1.out HNE2.out)
            have hne3 := own_blk_ne ho3 b3 (by decide)
            have V4 := Lib.hid (own_kept ho3 hK3 (fun g' e e2 => hne3 (by rw [e, e2])))
            have b4 := b3.set_ 3 (.slice A3 nN c3)
            simp at b4
            clear hg3 hg3' hat3 ho3 K3 hK3 b3 e3 f3 O1 K1 R1 b1 b1d d3 hne3 HNE1 HNE2
            generalize w3.setCell ⟨g, 3, none⟩ (.slice A3 nN c3) = W4 at *
            have d0 := b4.cell 0
            have d1 := b4.cell 1
            have d2 := b4.cell 2
            have d3 := b4.cell 3
            simp at d0 d1 d2 d3
            have hM := Lib.hid (fun w1 => rMay38 kN (sgn aN) 0 A3 nN c3 (by omega) (sgn_word aN ha4) w1)
            have htk : (D.take nN).length = nN := by rw [List.length_take, HD.out]; omega
            have hme : mayN kN (sgn aN) 0 nN = mayC ⟨kN, sgn aN, 0, D.take nN⟩ := by rw [mayC_eq, htk]
            rw [hme] at hM
            have h1 := HH.out
            rw [if_neg hk0, if_neg hk2, if_neg hbig] at h1
            simp only [cmdC] at hM
            have HD2 : Hid ((D.drop nN).length = m2 - nN) := Lib.hid (by rw [List.length_drop, HD.out])
            have R13 := R12.out.cut (k := nN) hbig' hm2
            rw [show (bcells D).drop (nN * 1) = bcells (D.drop nN) by simp [bcells, List.map_drop]] at R13
            simp only [Nat.mul_one] at R13
            have H13 := Lib.hid R13
            clear R13
            go_upto_region 14 with (fail)
            generalize (if c2 = nN then A12 else Option.map (fun x => x.add nN) A12) = A13 at *
            have hmc3 : m2 - nN ≤ c2 - nN := by omega
            have hmm3 : m2 - nN < m := by omega
            have ham3 : acc.length + 1 + (m2 - nN) ≤ N := by omega
            generalize m2 - nN = m3 at *
            generalize c2 - nN = c3x at *
            have HTK := Lib.hid htk
            have haccI : acc.length ≤ 3000000 := by omega
            have hd32 : word32 0 := by unfold word32; omega
            have hk255 : kN ≤ 255 := by omega
            cases hmy : mayC ⟨kN, sgn aN, 0, D.take nN⟩ with
            | false =>
              rw [hmy] at h1 hM
              have hres : Hid (RT = none) := Lib.hid (by rw [HT.out, HGN.out (by rw [h1]; rfl)]; rfl)
              clear h1 hmy hme htk HT HH HGS HGN
              go_wp2_with (go_at_call 18; refine (hM.out _).mono ?_; rintro e w1 ⟨rfl, hb1⟩)
              go_ret3
              rw [hres.out]
              exact RetGet.none_ (K4.out.trans (hb1.mono K4.out.size))
            | true =>
              rw [hmy] at h1 hM
              simp only [if_true] at h1
              have hres : Hid (RT = (getB (D.drop nN)).map fun p => (vals (acc ++ [⟨kN, sgn aN, 0, A3, c3, D.take nN⟩]) ++ p.1, p.2)) := Lib.hid (by
                rw [HT.out, HGS.out _ _ h1, if_neg hk0, HDD.out nN, Option.map_map]
                congr 1
                funext p
                simp [vals, CmdV.val])
              clear h1 hmy hme htk HT HH HGS HGN
              have V4' : Hid (W4.ownsRow w.heap.size 5 1 (.slice A3 (D.take nN).length c3) (D.take nN).length (bcells (D.take nN))) := Lib.hid (by rw [HTK.out]; exact V4.out)
              generalize D.take nN = bt at *
              go_upto_region 17 with (first
                | (go_at_call 18; refine (hM.out _).mono ?_; rintro e w1 ⟨rfl, hb1⟩
                   have K5 := Lib.hid (K4.out.trans (hb1.mono K4.out.size))
                   have O5 := Lib.hid ((O4.out.call hb1).alloc (.cells #[.int .u8 kN, .int .i32 (sgn aN), .int .i32 0, .slice A3 nN c3] 38))
                   have V5 := Lib.hid ((V4'.out.below hb1).alloc (.cells #[.int .u8 kN, .int .i32 (sgn aN), .int .i32 0, .slice A3 nN c3] 38))
                   have K6 := Lib.hid (K5.out.alloc K5.out.size (.cells #[.int .u8 kN, .int .i32 (sgn aN), .int .i32 0, .slice A3 nN c3] 38))
                   have bn := Blk.new w1 38 #[.int .u8 kN, .int .i32 (sgn aN), .int .i32 0, .slice A3 nN c3]
                   have b5 := b4.call hb1
                   have e0 := b5.cell 0
                   have e1 := b5.cell 1
                   have e2 := b5.cell 2
                   have e3 := b5.cell 3
                   simp at e0 e1 e2 e3
                   clear hb1)
                | (at_builtin; refine wpList_app_own rfl (.tmp 55) (.tmp 57) rfl Tryd.underlying33 hi1 hy0 hy1 hy2 rfl (by decide) O5.out.1 K6.out.size rfl w1.heap.size 1 1 #[.int .u8 kN, .int .i32 (sgn aN), .int .i32 0, .slice A3 nN c3] rfl bn rfl (by simp [Value.oneCell']) (by omega) (by omega) ?_; intro v2 w2 hown2 hg2 hb2))
              have K7 := Lib.hid (K6.out.trans hb2)
              have ho2' : w2.ownsRow w.heap.size 38 4 v2 (acc.length + 1) (cmdsV acc ++ (CmdV.cells ⟨kN, sgn aN, 0, A3, c3, bt⟩).toList) := by
                show w2.ownsRow _ _ _ _ _ (cmdsV acc ++ (cmdC kN (sgn aN) 0 A3 bt.length c3).toList)
                rw [HTK.out]
                exact hown2
              have O7 := Lib.hid (O5.out.snoc (x := ⟨kN, sgn aN, 0, A3, c3, bt⟩) hg2 ho2' hk255 (sgn_word aN ha4) hd32 V5.out)
              have hkz2 : ((kN : Int) == 0) = false := by simp; omega
              clear hown2 hg2 hb2 ho2'
              go_wp2
              go_roundw
              case rel => exact ⟨D.drop nN, A13, m3, c3x, acc ++ [⟨kN, sgn aN, 0, A3, c3, bt⟩], rfl, HD2.out, hmc3, by rw [List.length_append]; exact ham3, H13, hres, O7, K7⟩
              case measure => show m3 < m; exact hmm3
end Go.Proofs.YtljeecocbcffcaaDoor

/- Get of the loader, walked. -/
namespace Go.Proofs.YtljeecocbcffcaaDoor
open Go.RowKit
set_option linter.unusedSimpArgs false
set_option linter.unusedVariables false

/-- What lies at a round of Get. -/
structure GS (w : World) (pb pa : Nat) (A0 : Option Addr) (N c0 k : Nat) (v : Value) (acc : List CmdV) (W : World) : Prop where
  K : Below w.heap.size w W
  bb : Blk W pb 22 #[.slice A0 N c0]
  ba : Blk W pa 3 #[.int .i64 k]
  O : OwnL W w.heap.size v acc
section
variable {w W W' : World} {pb pa N c0 k : Nat} {A0 : Option Addr} {v : Value} {acc : List CmdV}
theorem GS.call (h : GS w pb pa A0 N c0 k v acc W) (hb : Below W.heap.size W W') : GS w pb pa A0 N c0 k v acc W' :=
  ⟨h.K.trans (hb.mono h.K.size), h.bb.call hb, h.ba.call hb, h.O.call hb⟩
theorem GS.alloc (h : GS w pb pa A0 N c0 k v acc W) (o : Obj) : GS w pb pa A0 N c0 k v acc (W.alloc o) := h.call ((Below.refl _ _).alloc (Nat.le_refl _) _)
theorem GS.drew (h : GS w pb pa A0 N c0 k v acc W) : GS w pb pa A0 N c0 k v acc W.drew := h.call (Below.refl _ _).drew
theorem GS.hne (h : GS w pb pa A0 N c0 k v acc W) {g : Nat} {t : TypeId} {cs : Array Value} (hb : Blk W g t cs) (h1 : t ≠ 38) (h2 : t ≠ 5) :
    (∀ g', v.ownBlock = some g' → some g' ≠ some g) ∧ (∀ x ∈ acc, ∀ g', (Value.slice x.A x.bytes.length x.c).ownBlock = some g' → some g' ≠ some g) :=
  ⟨fun g' e e2 => own_blk_ne h.O.1 hb (fun e => h1 e.symm) (by rw [e, e2]), fun x hx g' e e2 => own_blk_ne (h.O.2 x hx).2.2.2 hb (fun e => h2 e.symm) (by rw [e, e2])⟩
theorem GS.grownNil (h : GS w pb pa A0 N c0 k v acc W) (hg : W.grownBy W' none) : GS w pb pa A0 N c0 k v acc W' :=
  ⟨h.K.grown hg h.K.size (fun _ e => by cases e), h.bb.grown hg (fun e => by cases e), h.ba.grown hg (fun e => by cases e), h.O.grownNil hg⟩
theorem GS.store (h : GS w pb pa A0 N c0 k v acc W) {g : Nat} (hg : w.heap.size ≤ g) (hpb : pb ≠ g) (hpa : pa ≠ g) (h1 : ∀ g', v.ownBlock = some g' → some g' ≠ some g)
    (h2 : ∀ x ∈ acc, ∀ g', (Value.slice x.A x.bytes.length x.c).ownBlock = some g' → some g' ≠ some g) (o : Nat) (u : Value) : GS w pb pa A0 N c0 k v acc (W.setCell ⟨g, o, none⟩ u) :=
  ⟨h.K.setCell (p := ⟨g, o, none⟩) hg u, h.bb.far (p := ⟨g, o, none⟩) hpb u, h.ba.far (p := ⟨g, o, none⟩) hpa u, h.O.kept (KeptB.set u) h1 h2⟩
/-- One more command. -/
theorem GS.snoc {v' : Value} {x : CmdV} (h : GS w pb pa A0 N c0 k v acc W) (hg : W.grownBy W' v.ownBlock) (hb : Below w.heap.size W W') (ho : W'.ownsRow w.heap.size 38 4 v' (acc.length + 1) (cmdsV acc ++ x.cells.toList))
    (hk : x.kind ≤ 255) (ha : word32 x.at_) (hd : word32 x.dst) (hx : W.ownsRow w.heap.size 5 1 (.slice x.A x.bytes.length x.c) x.bytes.length (bcells x.bytes)) : GS w pb pa A0 N c0 k v' (acc ++ [x]) W' :=
  ⟨h.K.trans hb, h.bb.grown hg (fun e => own_blk_ne h.O.1 h.bb (by decide) e.symm), h.ba.grown hg (fun e => own_blk_ne h.O.1 h.ba (by decide) e.symm), h.O.snoc hg ho hk ha hd hx⟩
/-- The closure moves on. -/
theorem GS.moved (h : GS w pb pa A0 N c0 k v acc W) (hk : KeptB W W' (some pa)) (hb : Below w.heap.size W W') (h1 : 22 ≠ 3) {k' : Nat} (ha : Blk W' pa 3 #[.int .i64 k']) : GS w pb pa A0 N c0 k' v acc W' := by
  obtain ⟨e1, e2⟩ := h.hne h.ba (by decide) (by decide)
  exact ⟨h.K.trans hb, h.bb.kept hk (fun e => Blk.ne_ h.bb h.ba h1 (by injection e)), ha, h.O.kept hk e1 e2⟩
end
set_option maxRecDepth 100000 in
set_option maxHeartbeats 4000000 in
theorem lGet (b0 : List UInt8) (hb0 : b0.length ≤ 3000000) (A0 : Option Addr) (c0 : Nat) (hc0 : b0.length ≤ c0) (w : World) (hr0 : Reads w w.heap.size 1 A0 b0.length (bcells b0)) :
    Calls Tryd.prog 21 #[.slice A0 (b0.length : Nat) c0] w (RetGet (getB b0) w) := by
  obtain ⟨i0, hi0, hz0, hz1, hz2⟩ := info_parts byte_info
  obtain ⟨i1, hi1, hy0, hy1, hy2⟩ := info_parts cmd_info
  have HR0 := Lib.hid hr0
  have hrt0 : getB b0 = (getB (b0.drop 0)).map fun p => (vals [] ++ p.1, p.2) := by rw [List.drop_zero]; cases getB b0 <;> rfl
  obtain ⟨RT, hRT⟩ : ∃ RT, getB b0 = RT := ⟨_, rfl⟩
  rw [hRT]
  have HRT0 : Hid (RT = (getB (b0.drop 0)).map fun p => (vals [] ++ p.1, p.2)) := Lib.hid (by rw [← hRT]; exact hrt0)
  have HWD := Lib.hid (fun (k : Nat) (pb pa : Nat) (W : World) (h4 : k + 4 ≤ b0.length) h1 h2 h3 => lWord b0 k h4 (by omega) A0 c0 pb pa W h1 h2 h3)
  obtain ⟨N, hN⟩ : ∃ N, b0.length = N := ⟨_, rfl⟩
  have HN := Lib.hid hN
  rw [hN] at hb0 hc0 HR0 HWD ⊢
  clear hr0 hrt0 hRT hN
  have b1 := (Blk.new w 22 #[.slice A0 N c0]).alloc (.cells #[.int .i64 0] 3)
  have a1 : Blk ((w.alloc (.cells #[.slice A0 N c0] 22)).alloc (.cells #[.int .i64 0] 3)) (w.heap.size + 1) 3 #[.int .i64 0] := by simpa using Blk.new (w.alloc (.cells #[.slice A0 N c0] 22)) 3 #[.int .i64 0]
  have k1 : Below w.heap.size w ((w.alloc (.cells #[.slice A0 N c0] 22)).alloc (.cells #[.int .i64 0] 3)) := ((Below.refl _ _).alloc (Nat.le_refl _) _).alloc (by simp) _
  have G0 : Hid (GS w w.heap.size (w.heap.size + 1) A0 N c0 0 (.slice none 0 0) [] ((w.alloc (.cells #[.slice A0 N c0] 22)).alloc (.cells #[.int .i64 0] 3))) := Lib.hid ⟨k1, b1, a1, OwnL.nil⟩
  clear b1 a1 k1
  go_enter Tryd.func21, Tryd.ntmps21
  go_wp2
  obtain ⟨W0, hW0⟩ : ∃ X, (w.alloc (.cells #[.slice A0 N c0] 22)).alloc (.cells #[.int .i64 0] 3) = X := ⟨_, rfl⟩
  rw [hW0] at G0 ⊢
  clear hW0
  go_loopw [2] (fun v wr => ∃ (k : Nat) (acc : List CmdV), k ≤ N ∧ acc.length ≤ k ∧ Hid (RT = (getB (b0.drop k)).map fun p => (vals acc ++ p.1, p.2)) ∧ Hid (GS w w.heap.size (w.heap.size + 1) A0 N c0 k v acc wr)) (fun _ wr => N - (wr.cell? ⟨w.heap.size + 1, 0, none⟩).elim 0 fun u => (intOf u).toNat)
  case atStart => exact ⟨0, [], by omega, by simp, HRT0, G0⟩
  case round =>
    clear HRT0 G0
    obtain ⟨k, acc, hk, hak, HT, G⟩ := hrel
    have e0 := G.out.bb.cell 0
    have e1 := G.out.ba.cell 0
    simp at e0 e1
    have hkI : (0 : Int) ≤ k := by omega
    have hkN : (k : Int) ≤ N := by omega
    by_cases h12 : N - k < 12
    · have h12I : ¬ (12 : Int) ≤ (N : Int) - k := by omega
      have hres : Hid (RT = none) := Lib.hid (by rw [HT.out, getB_short (by rw [List.length_drop, HN.out]; omega)]; rfl)
      clear HT
      go_wp2
      go_ret3
      rw [hres.out]
      exact RetGet.none_ G.out.K
    · have h12I : (12 : Int) ≤ (N : Int) - k := by omega
      have hmeas : N - (wr.cell? ⟨w.heap.size + 1, 0, none⟩).elim 0 (fun u => (intOf u).toNat) = N - k := by rw [e1]; simp [intOf]
      have HME := Lib.hid hmeas
      clear hmeas
      have hpw : w.heap.size ≤ w.heap.size + 1 := by omega
      have RR : ∀ W, Below w.heap.size w W → Reads W W.heap.size 1 A0 N (bcells b0) := fun W h => (HR0.out.below h).more h.size
      have HRR := Lib.hid RR
      have d8 : (b0.drop (k + 4)) = (b0.drop k).drop 4 := by rw [List.drop_drop]
      have d12 : (b0.drop (k + 4 + 4)) = (b0.drop k).drop 8 := by rw [List.drop_drop]
      have D8 := Lib.hid d8
      have D12 := Lib.hid d12
      clear d8 d12
      have hw0 := HWD.out k w.heap.size (w.heap.size + 1) wr (by omega) G.out.bb G.out.ba (RR wr G.out.K)
      have HW0 := Lib.hid hw0
      clear hw0 RR
      go_upto_region 5 with (first
        | (go_at_call 44; (with_reducible refine HW0.out.mono ?_); rintro e w1 ⟨rfl, ha1, hk1, hb1⟩
           have G1 := Lib.hid (G.out.moved hk1 (hb1.mono hpw) (by decide) (k' := k + 4) (by simpa using ha1))
           have HW1 := Lib.hid (HWD.out (k + 4) w.heap.size (w.heap.size + 1) w1 (by omega) G1.out.bb G1.out.ba (HRR.out w1 G1.out.K))
           clear ha1 hk1 hb1)
        | (go_at_call 44; (with_reducible refine HW1.out.mono ?_); rintro e w2 ⟨rfl, ha2, hk2, hb2⟩
           have G2 := Lib.hid (G1.out.moved hk2 (hb2.mono hpw) (by decide) (k' := k + 4 + 4) (by simpa using ha2))
           have HW2 := Lib.hid (HWD.out (k + 4 + 4) w.heap.size (w.heap.size + 1) w2 (by omega) G2.out.bb G2.out.ba (HRR.out w2 G2.out.K))
           clear ha2 hk2 hb2)
        | (go_at_call 44; (with_reducible refine HW2.out.mono ?_); rintro e w3 ⟨rfl, ha3, hk3, hb3⟩
           have G3 := Lib.hid (G2.out.moved hk3 (hb3.mono hpw) (by decide) (k' := k + 4 + 4 + 4) (by simpa using ha3))
           clear ha3 hk3 hb3))
      rw [D8.out, D12.out]
      have hhead : headC (b0.drop k) = (if numW (b0.drop k) = 0 then (if mayC ⟨0, sgn (numW ((b0.drop k).drop 4)), sgn (numW ((b0.drop k).drop 8)), []⟩ then some (⟨0, sgn (numW ((b0.drop k).drop 4)), sgn (numW ((b0.drop k).drop 8)), []⟩, 12) else none) else if 2 < numW (b0.drop k) then none
        else if N - k - 12 < numW ((b0.drop k).drop 8) then none else if mayC ⟨numW (b0.drop k), sgn (numW ((b0.drop k).drop 4)), 0, ((b0.drop k).drop 12).take (numW ((b0.drop k).drop 8))⟩ then some (⟨numW (b0.drop k), sgn (numW ((b0.drop k).drop 4)), 0, ((b0.drop k).drop 12).take (numW ((b0.drop k).drop 8))⟩, 12 + numW ((b0.drop k).drop 8)) else none) := by
        unfold headC
        rw [if_neg (by rw [List.length_drop, HN.out]; omega), List.length_drop, HN.out]
      have hk4 := numW_lt (b0.drop k)
      have ha4 := numW_lt ((b0.drop k).drop 4)
      have hn4 := numW_lt ((b0.drop k).drop 8)
      have HH := Lib.hid hhead
      have HDD := Lib.hid (fun n => show (b0.drop k).drop (12 + n) = b0.drop (k + (12 + n)) by rw [List.drop_drop])
      have hgs := fun (x : CmdL) (j : Nat) => getB_some (b := b0.drop k) (c := x) (n := j)
      have hgn := getB_none (b := b0.drop k)
      have HGS := Lib.hid hgs
      have HGN := Lib.hid hgn
      have HD12 := Lib.hid (show (b0.drop k).drop 12 = b0.drop (k + 12) by rw [List.drop_drop])
      clear hhead hgs hgn HW0 HW1 HW2 G G1 G2 HWD
      rw [show k + 4 + 4 + 4 = k + 12 by omega] at G3
      generalize numW (b0.drop k) = kN at *
      generalize numW ((b0.drop k).drop 4) = aN at *
      generalize numW ((b0.drop k).drop 8) = nN at *
      have f0 := G3.out.bb.cell 0
      have f1 := G3.out.ba.cell 0
      simp at f0 f1
      have hs0 : w.heap.size < w3.heap.size := G3.out.bb.lt
      have hs1 : w.heap.size + 1 < w3.heap.size := G3.out.ba.lt
      by_cases hk2 : 2 < kN
      · have hres : Hid (RT = none) := Lib.hid (by
          rw [HT.out, HGN.out (by rw [HH.out, if_neg (by omega), if_pos hk2])]; rfl)
        have hk2I : (3 : Int) ≤ kN := by omega
        clear HT
        go_wp2
        go_ret3
        rw [hres.out]
        exact RetGet.none_ G3.out.K
      · have hk2I : ¬ (3 : Int) ≤ kN := by omega
        have hwk : IntKind.u8.wrap (kN : Int) = (kN : Int) := by rw [IntKind.wrap_u8]; omega
        have hwa : wrap32 (aN : Int) = sgn aN := by unfold wrap32 sgn; split <;> omega
        have hwn : wrap32 (nN : Int) = sgn nN := by unfold wrap32 sgn; split <;> omega
        by_cases hk0 : kN = 0
        · subst hk0
          have hkz : (((0 : Nat) : Int) == 0) = true := rfl
          have hM := Lib.hid (fun w1 => lMay 0 (sgn aN) (sgn nN) none 0 0 (by decide) (sgn_word aN ha4) w1)
          have hme : mayN 0 (sgn aN) (sgn nN) 0 = mayC ⟨0, sgn aN, sgn nN, []⟩ := rfl
          rw [hme] at hM
          have h1 := HH.out
          rw [if_pos rfl] at h1
          have b1 := Blk.new w3 38 #[.int .u8 0, .int .i32 (sgn aN), .int .i32 (sgn nN), .slice none 0 0]
          have G4 := Lib.hid (G3.out.alloc (.cells #[.int .u8 0, .int .i32 (sgn aN), .int .i32 (sgn nN), .slice none 0 0] 38))
          simp only [cmdC] at hM
          have haccI : acc.length ≤ 3000000 := by omega
          cases hmy : mayC ⟨0, sgn aN, sgn nN, []⟩ with
          | false =>
            rw [hmy] at h1 hM
            have hres : Hid (RT = none) := Lib.hid (by rw [HT.out, HGN.out (by rw [h1]; rfl)]; rfl)
            clear h1 hmy hme HT HH HGS HGN
            go_wp2_with (go_at_call 17; refine (hM.out _).mono ?_; rintro e w8 ⟨rfl, hb8⟩)
            go_ret3
            rw [hres.out]
            exact RetGet.none_ (G4.out.call hb8).K
          | true =>
            rw [hmy] at h1 hM
            simp only [if_true] at h1
            have hres : Hid (RT = some (vals acc ++ [⟨0, sgn aN, sgn nN, []⟩], b0.drop (k + 12))) := Lib.hid (by
              rw [HT.out, HGS.out _ _ h1, if_pos rfl, HD12.out]; rfl)
            have hD : (b0.drop (k + 12)).length = N - (k + 12) := by rw [List.length_drop, HN.out]
            have HDL := Lib.hid hD
            have hk12N : k + 12 ≤ N := by omega
            have hk12I : (k : Int) + 12 ≤ N := by omega
            have hk12c : (k : Int) + 12 ≤ c0 := by omega
            have hk12z : (0 : Int) ≤ (k : Int) + 12 := by omega
            clear h1 hmy hme HT HH HGS HGN hD
            go_upto_region 15 with (first
              | (go_at_call 17; refine (hM.out _).mono ?_; rintro e w8 ⟨rfl, hb8⟩
                 have G8 := Lib.hid ((G4.out.call hb8).alloc (.cells #[.int .u8 0, .int .i32 (sgn aN), .int .i32 (sgn nN), .slice none 0 0] 38))
                 have bn := Blk.new w8 38 #[.int .u8 0, .int .i32 (sgn aN), .int .i32 (sgn nN), .slice none 0 0]
                 have b8 := b1.call hb8
                 have e0 := b8.cell 0
                 have e1 := b8.cell 1
                 have e2 := b8.cell 2
                 have e3 := b8.cell 3
                 simp at e0 e1 e2 e3
                 clear hb8)
              | (at_builtin; refine wpList_app_own rfl (.tmp 61) (.tmp 63) rfl Tryd.underlying33 hi1 hy0 hy1 hy2 rfl (by decide) G8.out.O.1 G8.out.K.size rfl w8.heap.size 1 1 #[.int .u8 0, .int .i32 (sgn aN), .int .i32 (sgn nN), .slice none 0 0] rfl bn rfl (by simp [Value.oneCell']) (by omega) (by omega) ?_; intro v9 w9 hown9 hg9 hb9))
            have G9 := Lib.hid (G8.out.snoc (x := ⟨0, sgn aN, sgn nN, none, 0, []⟩) hg9 hb9 hown9 (Nat.zero_le 255) (sgn_word aN ha4) (sgn_word nN hn4) (World.ownsRow_nil _ _ _ _))
            clear hown9 hg9 hb9 G8 G4
            have GA := Lib.hid (G9.out.alloc (.cells #[] 5))
            have hE : (w9.alloc (.cells #[] 5)).ownsRow w.heap.size 5 1 (.slice (some ⟨w9.heap.size, 0, none⟩) 0 0) 0 [] :=
              ⟨by simp, .inr ⟨w9.heap.size, 0, #[], rfl, G9.out.K.size, Blk.new w9 5 #[], Nat.le_refl _, Nat.zero_le _, by simp, by simp⟩⟩
            have HE := Lib.hid hE
            have q0 := GA.out.bb.cell 0
            have q1 := GA.out.ba.cell 0
            simp at q0 q1
            have R51 := ((HRR.out _ GA.out.K).cut (k := k + 12) hk12N hc0)
            rw [show (bcells b0).drop ((k + 12) * 1) = bcells (b0.drop (k + 12)) by simp [bcells, List.map_drop]] at R51
            simp only [Nat.mul_one] at R51
            have R52 := Lib.hid R51
            have zA : w.heap.size ≤ (w9.alloc (.cells #[] 5)).heap.size := GA.out.K.size
            clear R51 hE
            go_wp2_with (first
              | (at_builtin; go_loud (refine wpList_append_any _ rfl (.tmp 68) (.tmp 71) 22 rfl w.heap.size 5 i0 _ 1 1 Tryd.underlying22 hi0 hz0 hz1 hz2 rfl (by decide) _ 0 [] rfl HE.out _ _ _ _ (bcells (b0.drop (k + 12))) rfl R52.out (bytes_one _) (by unfold maxLen; omega) (by omega) zA ?_); intro v5 w5 ho5 hg5 hat5))
            all_goals
              go_ret3
              rw [hres.out]
              have hv : vals acc ++ [⟨0, sgn aN, sgn nN, []⟩] = vals (acc ++ [⟨0, sgn aN, sgn nN, none, 0, []⟩]) := by simp [vals, CmdV.val]
              rw [hv]
              have hg5' : KeptB (w9.alloc (.cells #[] 5)) w5 (some w9.heap.size) := KeptB.of_grown hg5
              have KB : Below w.heap.size w w5 := GA.out.K.grown (row := some w9.heap.size) hg5 GA.out.K.size (fun j e => Nat.le_trans G9.out.K.size (Nat.le_of_eq (Option.some.inj e)))
              have OB : OwnL w5 w.heap.size v9 (acc ++ [⟨0, sgn aN, sgn nN, none, 0, []⟩]) := by
                refine GA.out.O.kept hg5' (fun g' e e2 => ?_) (fun x hx g' e e2 => ?_)
                · injection e2 with e2; have := (G9.out.O.1.lt g' e).2; omega
                · injection e2 with e2; have := ((G9.out.O.2 x hx).2.2.2.lt g' e).2; omega
              refine RetGet.some_ KB OB ?_
              rw [HDL.out]
              simpa using ho5
        · have hkz : ((kN : Int) == 0) = false := by simp; omega
          by_cases hbig : N - k - 12 < nN
          · have hres : Hid (RT = none) := Lib.hid (by
              rw [HT.out, HGN.out (by rw [HH.out, if_neg hk0, if_neg hk2, if_pos hbig])]; rfl)
            have hbI : (N : Int) - ((k : Int) + 12) < nN := by omega
            have K1 := Lib.hid ((G3.out.alloc (.cells #[.int .u8 kN, .int .i32 (sgn aN), .int .i32 0, .slice none 0 0] 38)).K)
            clear HT HH HGS HGN
            go_wp2
            go_ret3
            rw [hres.out]
            exact RetGet.none_ K1.out
          · have hbI : ¬ (N : Int) - ((k : Int) + 12) < nN := by omega
            have hsum : IntKind.i64.wrap ((k : Int) + 12 + (nN : Int)) = (k : Int) + 12 + (nN : Int) := IntWalk.i64_in _ (by omega)
            have hcI : (k : Int) + 12 + (nN : Int) ≤ c0 := by omega
            have hn0I : (0 : Int) ≤ nN := by omega
            have hk12 : (0 : Int) ≤ (k : Int) + 12 := by omega
            have hkk : (k : Int) + 12 ≤ (k : Int) + 12 + (nN : Int) := by omega
            have b1 := Blk.new w3 38 #[.int .u8 kN, .int .i32 (sgn aN), .int .i32 0, .slice none 0 0]
            have G4 := Lib.hid (G3.out.alloc (.cells #[.int .u8 kN, .int .i32 (sgn aN), .int .i32 0, .slice none 0 0] 38))
            have HNE1 := Lib.hid (show ∀ g', u2.ownBlock = some g' → some g' ≠ some w3.heap.size from fun g' e e2 => by injection e2 with e2; have := (G3.out.O.1.lt g' e).2; omega)
            have HNE2 := Lib.hid (show ∀ x ∈ acc, ∀ g', (Value.slice x.A x.bytes.length x.c).ownBlock = some g' → some g' ≠ some w3.heap.size from fun x hx g' e e2 => by injection e2 with e2; have := ((G3.out.O.2 x hx).2.2.2.lt g' e).2; omega)
            go_upto_region 10 with (fail)
            obtain ⟨g, hg⟩ : ∃ g, w3.heap.size = g := ⟨_, rfl⟩
            obtain ⟨W4, hW4⟩ : ∃ X, w3.alloc (.cells #[.int .u8 kN, .int .i32 (sgn aN), .int .i32 0, .slice none 0 0] 38) = X := ⟨_, rfl⟩
            rw [hW4, hg] at b1
            rw [hW4] at G4
            rw [hg] at HNE1 HNE2
            rw [hW4, hg]
            have hpag : w.heap.size + 1 ≠ g := by omega
            have hpbg : w.heap.size ≠ g := by omega
            have hwg : w.heap.size ≤ g := by omega
            clear hW4 hg
            have d3 := b1.cell 3
            have f0' := G4.out.bb.cell 0
            have f1' := G4.out.ba.cell 0
            simp at d3 f0' f1'
            refine wp_region_quiet_tail 9 (by kernel_rfl) (by kernel_rfl) ?_
            simp only [List.take_succ_cons, List.take_zero, List.drop_succ_cons, List.drop_zero]
            repeat go_big_quiet_step (fail)
            refine wpQuiet_nil ?_
            have hkN12 : k + 12 ≤ N := by omega
            have hD : (b0.drop (k + 12)).length = N - (k + 12) := by rw [List.length_drop, HN.out]
            have R51 := ((HRR.out W4 G4.out.K).cut (k := k + 12) hkN12 hc0)
            rw [show (bcells b0).drop ((k + 12) * 1) = bcells (b0.drop (k + 12)) by simp [bcells, List.map_drop]] at R51
            simp only [Nat.mul_one] at R51
            have hM : k + 12 + nN - (k + 12) = nN := by omega
            have R52 := Lib.hid (R51.pre (k := k + 12 + nN - (k + 12)) (by omega))
            have HM := Lib.hid hM
            have h63 : 0 + (k + 12 + nN - (k + 12)) ≤ maxLen := by unfold maxLen; omega
            have hby : (0 + (k + 12 + nN - (k + 12))) * 1 ≤ 140737488355328 := by omega
            clear hM
            have z4 : w.heap.size ≤ W4.drew.heap.size := G4.out.K.size
            have b1d : Blk W4.drew g 38 #[.int .u8 kN, .int .i32 (sgn aN), .int .i32 0, .slice none 0 0] := b1
            clear R51
            go_upto_region 11 with (at_builtin; refine wpList_append_any W4.drew rfl (.tmp 44) (.tmp 51) 22 rfl w.heap.size 5 i0 _ 1 1 Tryd.underlying22 hi0 hz0 hz1 hz2 rfl (by decide) (.slice none 0 0) 0 [] rfl (World.ownsRow_nil _ _ _ _) W4.heap.size _ _ _ (bcells ((b0.drop (k + 12)).take (k + 12 + nN - (k + 12)))) rfl R52.out (bytes_one _) h63 hby z4 ?_; intro v3 W5 ho3 hg3 hat3
                                    rw [HM.out, Nat.zero_add, List.nil_append] at ho3
                                    obtain ⟨A3, c3, rfl⟩ := own_form ho3
                                    have b3 := Blk.grown b1d hg3 (by simp [Value.ownBlock])
                                    have e3 := b3.cell 3
                                    have fz3 := b3.frozen 3
                                    simp at e3)
            have hg3' : W4.drew.grownBy W5 none := hg3
            have G5 := Lib.hid ((G4.out.drew.grownNil hg3').store hwg hpbg hpag HNE1.out HNE2.out 3 (.slice A3 nN c3))
            have hK3 : KeptB W5 (W5.setCell ⟨g, 3, none⟩ (.slice A3 nN c3)) (some g) := KeptB.set _
            have hne3 := own_blk_ne ho3 b3 (by decide)
            have V5 := Lib.hid (own_kept ho3 hK3 (fun g' e e2 => hne3 (by rw [e, e2])))
            have b5 := b3.set_ 3 (.slice A3 nN c3)
            simp at b5
            clear hg3 hg3' hat3 ho3 hK3 b3 e3 fz3 b1 b1d d3 hne3 G4 f0' f1'
            generalize W5.setCell ⟨g, 3, none⟩ (.slice A3 nN c3) = W6 at *
            have f1'' := G5.out.ba.cell 0
            have z1'' := G5.out.ba.frozen 0
            simp at f1''
            have G6 := Lib.hid (G5.out.moved (KeptB.set (g := w.heap.size + 1) (o := 0) (.int .i64 ((k : Int) + 12 + (nN : Int)))) ((Below.refl _ _).setCell (p := ⟨w.heap.size + 1, 0, none⟩) hpw _) (by decide) (k' := k + 12 + nN) (by simpa using G5.out.ba.set_ 0 (.int .i64 ((k : Int) + 12 + (nN : Int)))))
            have V6 := Lib.hid (own_kept V5.out (KeptB.set (g := w.heap.size + 1) (o := 0) (.int .i64 ((k : Int) + 12 + (nN : Int)))) (fun g' e e2 => own_blk_ne V5.out G5.out.ba (by decide) (by rw [e, e2])))
            have b6 := b5.far (p := ⟨w.heap.size + 1, 0, none⟩) hpag.symm (.int .i64 ((k : Int) + 12 + (nN : Int)))
            go_upto_region 12 with (fail)
            clear b5 V5 G5 f1'' z1''
            generalize W6.setCell ⟨w.heap.size + 1, 0, none⟩ (.int .i64 ((k : Int) + 12 + (nN : Int))) = W7 at *
            have d0 := b6.cell 0
            have d1 := b6.cell 1
            have d2 := b6.cell 2
            have d3 := b6.cell 3
            simp at d0 d1 d2 d3
            have htk : ((b0.drop (k + 12)).take nN).length = nN := by rw [List.length_take, hD]; omega
            have hM := Lib.hid (fun w1 => lMay kN (sgn aN) 0 A3 nN c3 (by omega) (sgn_word aN ha4) w1)
            have hme : mayN kN (sgn aN) 0 nN = mayC ⟨kN, sgn aN, 0, (b0.drop (k + 12)).take nN⟩ := by rw [mayC_eq, htk]
            rw [hme] at hM
            have h1 := HH.out
            rw [if_neg hk0, if_neg hk2, if_neg hbig, HD12.out] at h1
            have V6' : Hid (W7.ownsRow w.heap.size 5 1 (.slice A3 nN c3) nN (bcells ((b0.drop (k + 12)).take nN))) := Lib.hid (by rw [← HM.out]; simpa [HM.out] using V6.out)
            simp only [cmdC] at hM
            have HTK := Lib.hid htk
            have haccI : acc.length ≤ 3000000 := by omega
            have hd32 : word32 0 := by unfold word32; omega
            have hk255 : kN ≤ 255 := by omega
            have hbN : k + 12 + nN ≤ N := by omega
            generalize hbt : (b0.drop (k + 12)).take nN = bt at *
            cases hmy : mayC ⟨kN, sgn aN, 0, bt⟩ with
            | false =>
              rw [hmy] at h1 hM
              have hres : Hid (RT = none) := Lib.hid (by rw [HT.out, HGN.out (by rw [h1]; rfl)]; rfl)
              clear h1 hmy hme htk HT HH HGS HGN hbt
              go_wp2_with (go_at_call 17; refine (hM.out _).mono ?_; rintro e w8 ⟨rfl, hb8⟩)
              all_goals
                go_ret3
                rw [hres.out]
                exact RetGet.none_ (G6.out.call hb8).K
            | true =>
              rw [hmy] at h1 hM
              simp only [if_true] at h1
              have hres : Hid (RT = (getB (b0.drop (k + 12 + nN))).map fun p => (vals (acc ++ [⟨kN, sgn aN, 0, A3, c3, bt⟩]) ++ p.1, p.2)) := Lib.hid (by
                rw [HT.out, HGS.out _ _ h1, if_neg hk0, HDD.out nN, Option.map_map, show k + (12 + nN) = k + 12 + nN by omega]
                congr 1
                funext p
                simp [vals, CmdV.val])
              clear h1 hmy hme htk HT HH HGS HGN hbt
              have V7 : Hid (W7.ownsRow w.heap.size 5 1 (.slice A3 bt.length c3) bt.length (bcells bt)) := Lib.hid (by rw [HTK.out]; exact V6'.out)
              go_upto_region 14 with (first
                | (go_at_call 17; refine (hM.out _).mono ?_; rintro e w8 ⟨rfl, hb8⟩
                   have G8 := Lib.hid ((G6.out.call hb8).alloc (.cells #[.int .u8 kN, .int .i32 (sgn aN), .int .i32 0, .slice A3 nN c3] 38))
                   have V8 := Lib.hid ((V7.out.below hb8).alloc (.cells #[.int .u8 kN, .int .i32 (sgn aN), .int .i32 0, .slice A3 nN c3] 38))
                   have bn := Blk.new w8 38 #[.int .u8 kN, .int .i32 (sgn aN), .int .i32 0, .slice A3 nN c3]
                   have b8 := b6.call hb8
                   have e0 := b8.cell 0
                   have e1 := b8.cell 1
                   have e2 := b8.cell 2
                   have e3 := b8.cell 3
                   simp at e0 e1 e2 e3
                   clear hb8)
                | (at_builtin; refine wpList_app_own rfl (.tmp 61) (.tmp 63) rfl Tryd.underlying33 hi1 hy0 hy1 hy2 rfl (by decide) G8.out.O.1 G8.out.K.size rfl w8.heap.size 1 1 #[.int .u8 kN, .int .i32 (sgn aN), .int .i32 0, .slice A3 nN c3] rfl bn rfl (by simp [Value.oneCell']) (by omega) (by omega) ?_; intro v9 w9 hown9 hg9 hb9))
              have ho9 : w9.ownsRow w.heap.size 38 4 v9 (acc.length + 1) (cmdsV acc ++ (CmdV.cells ⟨kN, sgn aN, 0, A3, c3, bt⟩).toList) := by
                show w9.ownsRow _ _ _ _ _ (cmdsV acc ++ (cmdC kN (sgn aN) 0 A3 bt.length c3).toList)
                rw [HTK.out]
                exact hown9
              have G9 := Lib.hid (G8.out.snoc (x := ⟨kN, sgn aN, 0, A3, c3, bt⟩) hg9 hb9 ho9 hk255 (sgn_word aN ha4) hd32 V8.out)
              have hkz2 : ((kN : Int) == 0) = false := by simp; omega
              have q9 := G9.out.ba.cell 0
              simp at q9
              have Q9 := Lib.hid q9
              clear hown9 hg9 hb9 ho9 q9
              go_wp2
              go_roundw
              case rel => exact ⟨k + 12 + nN, acc ++ [⟨kN, sgn aN, 0, A3, c3, bt⟩], hbN, by rw [List.length_append]; simp; omega, hres, G9⟩
              case measure =>
                rw [HME.out, Q9.out]
                simp [intOf]
                omega
end Go.Proofs.YtljeecocbcffcaaDoor
