/- Texts that belong together, joined: what each one holds is told ahead of it. -/
import Derived.Test.YtljeecocbcffcaaDoorHK12
import Derived.Test.YtljeecocbcffcaaDoorHK15
import Derived.Test.YtljeecocbcffcaaDoorHK9
import Derived.Test.YtljeecocbcffcaaDoorHK13
/- Put of the reference, walked. -/
namespace Go.Proofs.YtljeecocbcffcaaDoor
open Go.RowKit
set_option linter.unusedSimpArgs false
set_option linter.unusedVariables false

theorem sizeC_take_le (l : List CmdL) (k : Nat) : sizeC (l.take k) ≤ sizeC l := by
  rw [sizeC_len, sizeC_len]
  exact putC_take_le l k
set_option maxRecDepth 100000 in
set_option maxHeartbeats 4000000 in
theorem rPut38 (l : List CmdV) (hn : l.length ≤ 1000000) (hb : ∀ x ∈ l, x.bytes.length ≤ 140737488355328) (A : Option Addr) (c : Nat) (w : World) (hr : Reads w w.heap.size 4 A l.length (cmdsV l)) (hv : VsOk w w.heap.size l) :
    Calls Tryd.prog 20 #[.slice A (l.length : Nat) c] w (RetPut (vals l) w) := by
  obtain ⟨i0, hi0, hz0, hz1, hz2⟩ := info_parts byte_info
  have HR := Lib.hid hr
  have HV := Lib.hid hv
  have HBY := Lib.hid hb
  have HT := Lib.hid (fun (k : Nat) (x : CmdV) (hx : l[k]? = some x) => vals_take hx)
  have HG := Lib.hid (fun (k : Nat) (x : CmdV) (hx : l[k]? = some x) => vals_get hx)
  have HLN := Lib.hid (vals_len l)
  generalize vals l = L at *
  obtain ⟨n, hnn⟩ : ∃ n, l.length = n := ⟨_, rfl⟩
  rw [hnn] at HR hn HLN ⊢
  clear hr hv hb hnn
  unfold RetPut
  go_enter Tryd.func20, Tryd.ntmps20
  go_wp2
  go_loopw [4] (fun i wr => ∃ k : Nat, k ≤ n ∧ i = .int .i64 k ∧ Hid ((L.take k).all mayC = true) ∧ Hid (Below w.heap.size w wr)) (fun i _ => n - (intOf i).toNat)
  case atStart => exact ⟨0, by omega, rfl, Lib.hid rfl, Lib.hid (Below.refl _ _)⟩
  case round =>
    obtain ⟨k, hk, rfl, HA, K⟩ := hrel
    by_cases hlt : k < n
    · have hltI : (k : Int) < n := by omega
      obtain ⟨b, off, x, rfl, hb, hx, c0, c1, c2, c3⟩ := cmds_at (HR.out.below K.out) hlt
      have hM := Lib.hid (fun w1 => rMay38 x.kind x.at_ x.dst x.A x.bytes.length x.c (HV.out x (List.mem_of_getElem? hx)).1 (HV.out x (List.mem_of_getElem? hx)).2.1 w1)
      have hme : mayN x.kind x.at_ x.dst x.bytes.length = mayC x.val := rfl
      rw [hme] at hM
      have HX := Lib.hid hx
      simp only [cmdC] at hM
      cases hm : mayC x.val with
      | false =>
        rw [hm] at hM
        have hE := errC_two (HG.out k x hx) hm
        have HE := Lib.hid hE
        clear hE hm hme hx
        go_wp2_with (go_at_call 18; (with_reducible refine (hM.out _).mono ?_); rintro e w1 ⟨rfl, hb1⟩)
        go_ret2
        refine ⟨K.out.trans (hb1.mono K.out.size), _, by rw [HE.out]; rfl, ?_⟩
        unfold putR
        rw [HE.out, if_neg (by decide)]
        exact World.ownsRow_nil _ _ _ _
      | true =>
        rw [hm] at hM
        have HAN := Lib.hid (all_take (HG.out k x hx) HA.out hm)
        clear hm hme hx
        go_wp2_with (first
          | (go_at_call 18; (with_reducible refine (hM.out _).mono ?_); rintro e w1 ⟨rfl, hb1⟩
             have K2 := Lib.hid (K.out.trans (hb1.mono K.out.size))
             clear hb1))
        go_roundw
        case rel => exact ⟨k + 1, by omega, by go_num, HAN, K2⟩
        case measure => simp [intOf]; omega
    · have hltI : ¬ (k : Int) < n := by omega
      obtain rfl : n = k := by omega
      rw [List.take_of_length_le (by rw [HLN.out]; omega)] at HA
      clear hlt hk
      go_wp2
      go_loopw [5, 6] (fun s i wr => ∃ k : Nat, k ≤ n ∧ i = .int .i64 k ∧ s = .int .i64 ((sizeC (L.take k) : Nat) : Int) ∧ Hid (sizeC (L.take k) ≤ 1048576) ∧ Hid (Below w.heap.size w wr)) (fun _ i _ => n - (intOf i).toNat)
      case atStart => exact ⟨0, by omega, rfl, rfl, Lib.hid (by simp [sizeC]), K⟩
      case round =>
        clear K
        obtain ⟨k, hk, rfl, rfl, HS, K⟩ := hrel
        by_cases hlt : k < n
        · have hltI : (k : Int) < n := by omega
          obtain ⟨b, off, x, rfl, hb, hx, c0, c1, c2, c3⟩ := cmds_at (HR.out.below K.out) hlt
          have hbl := HBY.out x (List.mem_of_getElem? hx)
          have hsn := sizeC_snoc (L.take k) x.val
          rw [← HT.out k x hx] at hsn
          have hbe : x.val.bytes.length = x.bytes.length := rfl
          rw [hbe] at hsn
          have hs0 := HS.out
          obtain ⟨s0, hs⟩ : ∃ s, sizeC (L.take k) = s := ⟨_, rfl⟩
          rw [hs] at hsn hs0 ⊢
          have HSN := Lib.hid hsn
          by_cases hbig : 1048576 < s0 + (12 + x.bytes.length)
          · have hE : errC L = 3 := by
              have := sizeC_take_le L (k + 1)
              unfold errC
              rw [if_pos HA.out, if_neg (by omega)]
            have HE := Lib.hid hE
            have hbI : 1048576 < (s0 : Int) + 12 + (x.bytes.length : Int) := by omega
            clear hE hsn hs hx
            generalize x.bytes.length = bl at *
            go_wp2
            go_ret2
            refine ⟨K.out, _, by rw [HE.out]; rfl, ?_⟩
            unfold putR
            rw [HE.out, if_neg (by decide)]
            exact World.ownsRow_nil _ _ _ _
          · have hbI : ¬ 1048576 < (s0 : Int) + 12 + (x.bytes.length : Int) := by omega
            have HS2 : Hid (sizeC (L.take (k + 1)) ≤ 1048576) := Lib.hid (by rw [HSN.out]; omega)
            clear hsn hs hx
            generalize x.bytes.length = bl at *
            go_wp2
            go_roundw
            case rel => exact ⟨k + 1, by omega, by go_num, by rw [HSN.out]; exact congrArg _ (by omega), HS2, K⟩
            case measure => simp [intOf]; omega
        · have hltI : ¬ (k : Int) < n := by omega
          obtain rfl : n = k := by omega
          rw [List.take_of_length_le (by rw [HLN.out]; omega)] at HS
          have HE : Hid (errC L = 0) := Lib.hid (by unfold errC; rw [if_pos HA.out, if_pos HS.out])
          have HR2 : Hid (putR L = putC L) := Lib.hid (by unfold putR; rw [if_pos HE.out])
          have HLP : Hid ((putC L).length ≤ 1048576) := Lib.hid (by rw [← sizeC_len]; exact HS.out)
          have N0 : Hid (wr.ownsRow w.heap.size 5 1 (.slice none 0 0) (putC (L.take 0)).length (bcells (putC (L.take 0)))) := Lib.hid (World.ownsRow_nil _ _ _ _)
          clear hlt hk
          rw [List.take_of_length_le (by rw [HLN.out]; omega)]
          generalize sizeC L = sz at *
          go_wp2
          go_loopw [7, 8] (fun x i wr => ∃ k : Nat, k ≤ n ∧ i = .int .i64 k ∧ Hid (Below w.heap.size w wr) ∧ Hid (wr.ownsRow w.heap.size 5 1 x (putC (L.take k)).length (bcells (putC (L.take k))))) (fun _ i _ => n - (intOf i).toNat)
          case atStart => exact ⟨0, by omega, rfl, K, N0⟩
          case round =>
            clear K N0
            obtain ⟨k, hk, rfl, K, O⟩ := hrel
            by_cases hlt : k < n
            · have hltI : (k : Int) < n := by omega
              obtain ⟨b, off, x, rfl, hb, hx, c0, c1, c2, c3⟩ := cmds_at (HR.out.below K.out) hlt
              obtain ⟨hk255, ha32, hd32, hbr⟩ := HV.out x (List.mem_of_getElem? hx)
              have hmay : mayC x.val = true := List.all_eq_true.1 HA.out _ (List.mem_of_getElem? (HG.out k x hx))
              have hO := (rOne38 x hk255 ha32 hd32 hmay wr ((hbr.below K.out).more K.out.size)).mono fun _ _ h => h.form
              have h65 : x.bytes.length ≤ 65536 := mayC_len hmay
              have hle := putC_take_le L (k + 1)
              have hP : putC (L.take (k + 1)) = putC (L.take k) ++ oneC x.val := by rw [HT.out k x hx, putC_snoc]
              have hlo : (oneC x.val).length = 12 + x.bytes.length := oneC_len _
              rw [hP, List.length_append, hlo] at hle
              have hszb := HLP.out
              have HO := Lib.hid hO
              have HP := Lib.hid hP
              have HLO := Lib.hid hlo
              simp only [CmdV.cells, cmdC] at HO
              clear hO hP hbr hmay hlo
              generalize putC (L.take k) = pk at *
              generalize oneC x.val = ox at *
              have hsum : pk.length + (12 + x.bytes.length) ≤ 1048576 := by omega
              clear hle hszb hx
              generalize x.bytes.length = bl at *
              have hw0 : w.heap.size ≤ wr.heap.size := K.out.size
              go_wp2_with (first
                | (go_at_call 43; refine HO.out.mono ?_; rintro e w4 ⟨A4, c4, rfl, ho4, hb4⟩
                   have K4 := Lib.hid (K.out.trans (hb4.mono hw0))
                   have O4 := Lib.hid (O.out.keep hb4 (Nat.le_refl _))
                   have z4 : w.heap.size ≤ w4.heap.size := K4.out.size
                   have R4 := Reads.of_own ho4
                   clear hb4 ho4)
                | (at_builtin; refine wpList_append_any w4 rfl (.tmp 44) (.tmp 49) 22 rfl w.heap.size 5 i0 _ 1 1 Tryd.underlying22 hi0 hz0 hz1 hz2 rfl (by decide) _ _ _ rfl O4.out w4.heap.size A4 (12 + bl) c4 (bcells ox) rfl R4 (bytes_one _) (by unfold maxLen; omega) (by omega) z4 ?_; intro v5 w5 ho5 hg5 hat5
                   have hgb5 := fun g e => (O4.out.lt g e).1
                   have K5 := Lib.hid (K4.out.grown hg5 K4.out.size hgb5)
                   have O5 : Hid (w5.ownsRow w.heap.size 5 1 v5 (putC (L.take (k + 1))).length (bcells (putC (L.take (k + 1))))) := Lib.hid (by rw [HP.out, List.length_append, HLO.out, bcells_append]; exact ho5)
                   clear ho5 hg5))
              go_roundw
              case rel => exact ⟨k + 1, by omega, by go_num, K5, O5⟩
              case measure => simp [intOf]; omega
            · have hltI : ¬ (k : Int) < n := by omega
              obtain rfl : n = k := by omega
              rw [List.take_of_length_le (by rw [HLN.out]; omega)] at O
              go_wp2
              go_ret2
              exact ⟨K.out, _, by rw [HE.out]; rfl, by rw [HR2.out]; exact O.out⟩
end Go.Proofs.YtljeecocbcffcaaDoor

/- LoaderPut, walked. -/
namespace Go.Proofs.YtljeecocbcffcaaDoor
open Go.RowKit
set_option linter.unusedSimpArgs false
set_option linter.unusedVariables false

set_option maxRecDepth 100000 in
set_option maxHeartbeats 4000000 in
theorem lPutLaw (l : List CmdV) (hn : l.length ≤ 140737488355328) (hbb : ∀ x ∈ l, x.bytes.length ≤ 140737488355328) (A : Option Addr) (c : Nat) (B : Nat) (w : World) (hr : Reads w w.heap.size 4 A l.length (cmdsV l)) (hv : VsOk w w.heap.size l) (hL : LaidW B w) (hB : B ≤ w.heap.size) :
    Calls Tryd.prog 4 #[.slice A (l.length : Nat) c] w (RetV (.bool true) w) := by
  have HL := Lib.hid hL
  have HB := Lib.hid hB
  have HR := Lib.hid hr
  have HV := Lib.hid hv
  have HGr := Lib.hid (lGreat l hn A c w hr hbb)
  have HNo := Lib.hid (fun h => greatC_not (l := l) h)
  have HP1 := Lib.hid (fun (h : l.length ≤ 1000000) (hb : ∀ x ∈ l, x.bytes.length ≤ 140737488355328) (w1 : World) (hr : Reads w1 w1.heap.size 4 A l.length (cmdsV l)) (hv : VsOk w1 w1.heap.size l) => lPut l h hb A c w1 hr hv)
  have HP2 := Lib.hid (fun (h : l.length ≤ 1000000) (hb : ∀ x ∈ l, x.bytes.length ≤ 140737488355328) (w1 : World) (hr : Reads w1 w1.heap.size 4 A l.length (cmdsV l)) (hv : VsOk w1 w1.heap.size l) => rPut38 l h hb A c w1 hr hv)
  obtain ⟨n, hnn⟩ : ∃ n, l.length = n := ⟨_, rfl⟩
  rw [hnn] at HR HGr HP1 HP2 HNo ⊢
  clear hr hv hL hbb hnn hn
  unfold RetPut at HP1 HP2
  generalize errC (vals l) = E at *
  generalize putR (vals l) = P at *
  go_enter Tryd.func4, Tryd.ntmps4
  cases hg : greatC l with
  | true =>
    rw [hg] at HGr
    clear HP1 HP2 hg HNo
    go_wp2_with (first
      | (go_at_call 16; (with_reducible refine HGr.out.mono ?_); rintro e w1 ⟨rfl, hb1⟩
         have K1 := Lib.hid hb1
         have HH := Lib.hid (lHead38 B w1 (HL.out.call hb1 HB.out) (Nat.le_trans HB.out hb1.size))
         clear hb1)
      | (go_at_call 15; (with_reducible refine HH.out.mono ?_); rintro e w2 ⟨rfl, hb2⟩
         have K2 := Lib.hid (K1.out.trans (hb2.mono K1.out.size))
         clear hb2))
    go_ret
    exact ⟨rfl, K2.out⟩
  | false =>
    rw [hg] at HGr
    have hN := HNo.out hg
    have HN := Lib.hid hN
    clear HNo hg hN
    go_upto_region 4 with (first
      | (go_at_call 16; (with_reducible refine HGr.out.mono ?_); rintro e w1 ⟨rfl, hb1⟩
         have K1 := Lib.hid hb1
         clear hb1))
    go_loopw [3] (fun i wr => ∃ k : Nat, k ≤ n ∧ i = .int .i64 k ∧ Hid (Below w.heap.size w wr)) (fun i _ => n - (intOf i).toNat)
    case atStart => exact ⟨0, Nat.zero_le _, rfl, K1⟩
    case round =>
      obtain ⟨k, hk, rfl, K⟩ := hrel
      have hn100 := HN.out.1
      by_cases hlt : k < n
      · have hltI : (k : Int) < n := by omega
        obtain ⟨b, off, x, rfl, hb, hx, c0, c1, c2, c3⟩ := cmds_at (HR.out.below K.out) hlt
        have hM1 := Lib.hid (fun w1 => lMay x.kind x.at_ x.dst x.A x.bytes.length x.c (HV.out x (List.mem_of_getElem? hx)).1 (HV.out x (List.mem_of_getElem? hx)).2.1 w1)
        have hM2 := Lib.hid (fun w1 => rMay38 x.kind x.at_ x.dst x.A x.bytes.length x.c (HV.out x (List.mem_of_getElem? hx)).1 (HV.out x (List.mem_of_getElem? hx)).2.1 w1)
        simp only [cmdC] at hM1 hM2
        generalize mayN x.kind x.at_ x.dst x.bytes.length = M at *
        have hbs : b < wr.heap.size := Nat.lt_of_lt_of_le hb K.out.size
        clear hx
        go_upto_region 6 with (fail)
        obtain ⟨ι, Fm, i0', h0', hFb, hcl⟩ := fam_below wr
        have e0 : ∀ i, (Fm i).cell? ⟨b, off + k * 4, none⟩ = some (.int .u8 x.kind) := fun i => ((hFb i).cell (p := ⟨b, off + k * 4, none⟩) hbs).trans c0
        have e1 : ∀ i, (Fm i).cell? ⟨b, off + k * 4 + 1, none⟩ = some (.int .i32 x.at_) := fun i => ((hFb i).cell (p := ⟨b, off + k * 4 + 1, none⟩) hbs).trans c1
        have e2 : ∀ i, (Fm i).cell? ⟨b, off + k * 4 + 2, none⟩ = some (.int .i32 x.dst) := fun i => ((hFb i).cell (p := ⟨b, off + k * 4 + 2, none⟩) hbs).trans c2
        have e3 : ∀ i, (Fm i).cell? ⟨b, off + k * 4 + 3, none⟩ = some (.slice x.A x.bytes.length x.c) := fun i => ((hFb i).cell (p := ⟨b, off + k * 4 + 3, none⟩) hbs).trans c3
        have HF1 := Lib.hid (fun i => hM1.out (Fm i))
        have HF2 := Lib.hid (fun i => hM2.out (Fm i))
        haveI : Nonempty ι := ⟨i0'⟩
        refine wp_region_quiet_fam Fm i0' h0' (by kernel_rfl) (by kernel_rfl) ?_
        repeat (go_big_quiet_step (first
          | (go_at_call 17; (with_reducible refine (HF1.out _).mono ?_); rintro e w6 ⟨rfl, hb6⟩; exact ⟨rfl, hcl _ _ hb6⟩)
          | (go_at_call 18; (with_reducible refine (HF2.out _).mono ?_); rintro e w6 ⟨rfl, hb6⟩; exact ⟨rfl, hcl _ _ hb6⟩)))
        refine wpQuiet_nil ?_
        intro i
        have K6 := Lib.hid (K.out.trans ((hFb i).mono K.out.size))
        clear hcl HF1 HF2 e0 e1 e2 e3 hFb h0'
        generalize Fm i = W6 at *
        go_wp2
        go_roundw
        case rel => exact ⟨k + 1, by omega, by go_num, K6⟩
        case measure => simp [intOf]; omega
      · have hltI : ¬ (k : Int) < n := by omega
        obtain rfl : n = k := by omega
        have HQ1 := Lib.hid (HP1.out (by omega) (fun x hx => Nat.le_trans (HN.out.2.1 x hx) (by decide)) wr ((HR.out.below K.out).more K.out.size) ((HV.out.below K.out).more K.out.size))
        go_upto_region 10 with (first
          | (go_at_call 19; (with_reducible refine HQ1.out.mono ?_); rintro e w2 ⟨hb2, v2, rfl, ho2⟩
             obtain ⟨A2, c2, rfl⟩ := own_form ho2
             have K2 := Lib.hid (K.out.trans (hb2.mono K.out.size))
             have O2 := Lib.hid ho2
             have HQ2 := Lib.hid (HP2.out (by omega) (fun x hx => Nat.le_trans (HN.out.2.1 x hx) (by decide)) w2 ((HR.out.below K2.out).more K2.out.size) ((HV.out.below K2.out).more K2.out.size))
             clear hb2 ho2)
          | (go_at_call 20; (with_reducible refine HQ2.out.mono ?_); rintro e w3 ⟨hb3, v3, rfl, ho3⟩
             obtain ⟨A3, c3, rfl⟩ := own_form ho3
             have K3 := Lib.hid (K2.out.trans (hb3.mono K2.out.size))
             have cv1 : (convert 22 9 (.slice A2 P.length c2)).run Tryd.prog w3 = .ok (.string (strB P)) w3 := conv_back ((Reads.of_own O2.out).below hb3)
             have cv2 : (convert 22 9 (.slice A3 P.length c3)).run Tryd.prog w3 = .ok (.string (strB P)) w3 := conv_back (Reads.of_own ho3)
             have HH := Lib.hid (lHead38 B w3 (HL.out.call K3.out HB.out) (Nat.le_trans HB.out K3.out.size))
             clear hb3 ho3))
        generalize strB P = X at *
        go_wp2_with (go_at_call 15; (with_reducible refine HH.out.mono ?_); rintro e w4 ⟨rfl, hb4⟩
                     have K4 := Lib.hid (K3.out.trans (hb4.mono K3.out.size))
                     clear hb4)
        go_ret
        exact ⟨rfl, K4.out⟩
end Go.Proofs.YtljeecocbcffcaaDoor

/- LoaderGet, walked. -/
namespace Go.Proofs.YtljeecocbcffcaaDoor
open Go.RowKit
set_option linter.unusedSimpArgs false
set_option linter.unusedVariables false

/-- What Get answers, in one form. -/
def anG (RT : Option (List CmdL × List UInt8)) : List CmdL × List UInt8 × Int := match RT with
  | none => ([], [], 380)
  | some p => (p.1, p.2, 0)
theorem RetGet.form {RT : Option (List CmdL × List UInt8)} {w w' : World} {e : Ending} (h : RetGet RT w e w') : Below w.heap.size w w' ∧ ∃ A1 c1 A2 c2 ls, e = .returned (.tuple #[.slice A1 (ls.length : Nat) c1, .slice A2 ((anG RT).2.1.length : Nat) c2, .int .i64 (anG RT).2.2]) ∧
    vals ls = (anG RT).1 ∧ OwnL w' w.heap.size (.slice A1 (ls.length : Nat) c1) ls ∧ w'.ownsRow w.heap.size 5 1 (.slice A2 ((anG RT).2.1.length : Nat) c2) (anG RT).2.1.length (bcells (anG RT).2.1) := by
  cases RT with
  | none =>
    obtain ⟨hb, rfl⟩ := h
    exact ⟨hb, none, 0, none, 0, [], rfl, rfl, OwnL.nil, World.ownsRow_nil _ _ _ _⟩
  | some p =>
    obtain ⟨hb, v, u, ls, rfl, hv, hl, ho⟩ := h
    obtain ⟨A1, c1, rfl⟩ := own_form hl.1
    obtain ⟨A2, c2, rfl⟩ := own_form ho
    exact ⟨hb, A1, c1, A2, c2, ls, rfl, hv, hl, ho⟩
theorem anG_len (b : List UInt8) : 12 * (anG (getB b)).1.length ≤ b.length := by
  cases h : getB b with
  | none => simp [anG]
  | some p =>
    have h1 := (getC_back _ _ _ _ h).1
    have h2 := putC_ge p.1
    have := congrArg List.length h1
    rw [List.length_append] at this
    simp only [anG]
    omega
theorem bcells_set (l : List UInt8) (k : Nat) (y : UInt8) : bcells (l.set k y) = (bcells l).set k (.int .u8 (y.toNat : Int)) := by
  simp [bcells, List.map_set]
theorem own_cap {w : World} {base e size n c : Nat} {A : Option Addr} {xs : List Value} (h : w.ownsRow base e size (.slice A n c) n xs) : n ≤ c := by
  rcases h.2 with ⟨h1, h2⟩ | ⟨g, cap, cur, hv, h1, h2, h3, h4⟩
  · omega
  · injection hv with e1 e2 e3
    omega
set_option maxRecDepth 100000 in
set_option maxHeartbeats 8000000 in
theorem lGetLaw (b : List UInt8) (A : Option Addr) (c : Nat) (hc : b.length ≤ c) (B : Nat) (w : World) (hr : Reads w w.heap.size 1 A b.length (bcells b)) (hL : LaidW B w) (hB : B ≤ w.heap.size) :
    Calls Tryd.prog 5 #[.slice A (b.length : Nat) c] w (RetV (.bool true) w) := by
  obtain ⟨i0, hi0, hz0, hz1, hz2⟩ := info_parts byte_info
  have HL := Lib.hid hL
  have HB := Lib.hid hB
  have HH := Lib.hid (lHead38 B w hL hB)
  have HG1 := Lib.hid (fun (h : b.length ≤ 3000000) A c hc w1 hr => (lGet b h A c hc w1 hr).mono fun e w' h => h.form)
  have HG2 := Lib.hid (fun (h : b.length ≤ 3000000) A c hc w1 hr => (rGet38 b h A c hc w1 hr).mono fun e w' h => h.form)
  have HAL := Lib.hid (anG_len b)
  have HR := Lib.hid hr
  have HC := Lib.hid hc
  generalize anG (getB b) = RT at *
  obtain ⟨L, r, E⟩ := RT
  obtain ⟨n, hnn⟩ : ∃ n, b.length = n := ⟨_, rfl⟩
  rw [hnn] at HR HG1 HG2 HAL HC ⊢
  have HNN := Lib.hid hnn
  clear hr hL hc hnn
  go_enter Tryd.func5, Tryd.ntmps5
  by_cases hbig : 2000000 < n
  · have hbigI : (2000000 : Int) < n := by omega
    go_wp2_with (go_at_call 15; (with_reducible refine HH.out.mono ?_); rintro e w1 ⟨rfl, hb1⟩
                 have K1 := Lib.hid hb1)
    go_ret
    exact ⟨rfl, K1.out⟩
  · have hbigI : ¬ (2000000 : Int) < n := by omega
    have HN0 : Hid ((w.alloc (.cells #[] 5)).ownsRow w.heap.size 5 1 (.slice (some ⟨w.heap.size, 0, none⟩) 0 0) 0 []) := Lib.hid (own_lit w 5 #[] rfl (by decide))
    have K0 := Lib.hid ((Below.refl w.heap.size w).alloc (Nat.le_refl _) (.cells #[] 5))
    have R0 := Lib.hid ((HR.out.below K0.out).more K0.out.size)
    clear HH
    go_upto_region 4 with (first
      | (at_builtin; go_loud (refine wpList_append_any _ rfl (.tmp 15) (.tmp 16) 22 rfl w.heap.size 5 i0 _ 1 1 Tryd.underlying22 hi0 hz0 hz1 hz2 rfl (by decide) _ _ _ rfl HN0.out _ A n c (bcells b) rfl R0.out (bcells_one b) (by unfold maxLen; omega) (by omega) K0.out.size ?_); intro v' w1 hown hg hat
         have K1 := Lib.hid (K0.out.grown hg K0.out.size (fun g e => (HN0.out.lt g e).1))
         have O1 : Hid (w1.ownsRow w.heap.size 5 1 v' n (bcells b)) := Lib.hid (by simpa using hown)
         clear hown hg hat))
    obtain ⟨A1, c1, rfl⟩ := own_form O1.out
    have HQ1 := Lib.hid (HG1.out (by omega) A1 c1 (own_cap O1.out) w1 (Reads.of_own O1.out))
    have HGL := Lib.hid (fun h0 : 0 < n => ownsRow_pos O1.out h0)
    clear HN0 K0 R0 HG1
    go_upto_region 6 with (first
      | (go_at_call 21; (with_reducible refine HQ1.out.mono ?_); rintro e w2 ⟨hb2, A2, c2, A3, c3, ls, rfl, hv2, hl2, hr2⟩
         have K2 := Lib.hid (K1.out.trans (hb2.mono K1.out.size))
         have O2 := Lib.hid (O1.out.keep hb2 (Nat.le_refl _))
         have HW12 := Lib.hid hb2.size
         have V2 := Lib.hid hv2
         have L2 := Lib.hid hl2
         have S2 := Lib.hid hr2
         have HQ2 := Lib.hid (HG2.out (by omega) A c HC.out w2 ((HR.out.below K2.out).more K2.out.size))
         clear hb2 hv2 hl2 hr2)
      | (go_at_call 22; (with_reducible refine HQ2.out.mono ?_); rintro e w3 ⟨hb3, A4, c4, A5, c5, ms, rfl, hv3, hl3, hr3⟩
         have K3 := Lib.hid (K2.out.trans (hb3.mono K2.out.size))
         have O3 := Lib.hid (O2.out.keep hb3 (Nat.le_refl _))
         have V3 := Lib.hid hv3
         have L3 := Lib.hid (L2.out.call hb3)
         have S3 := Lib.hid (S2.out.keep hb3 (Nat.le_refl _))
         have M3 := Lib.hid hl3
         have T3 := Lib.hid hr3
         have HW23 := Lib.hid hb3.size
         clear hb3 hv3 hl3 hr3))
    have cv1 : (convert 22 9 (.slice A1 n c1)).run Tryd.prog w3 = .ok (.string (strB b)) w3 := conv_back (Reads.of_own O3.out)
    have cv2 : (convert 22 9 (.slice A n c)).run Tryd.prog w3 = .ok (.string (strB b)) w3 := conv_back (HR.out.below K3.out)
    generalize strB b = X at *
    clear HG2 HQ1 O1 K1 K2 O2 L2 S2 HQ2 HC
    have HO : Hid (∃ bs : List UInt8, bs.length = n ∧ w3.ownsRow w.heap.size 5 1 (.slice A1 n c1) n (bcells bs)) := Lib.hid ⟨b, HNN.out, O3.out⟩
    go_upto_region 9 with (fail)
    clear cv1 cv2
    go_loopw [10] (fun i wr => ∃ k : Nat, k ≤ n ∧ i = .int .i64 k ∧ Hid (Below w.heap.size w wr) ∧ Hid (∃ bs : List UInt8, bs.length = n ∧ wr.ownsRow w.heap.size 5 1 (.slice A1 n c1) n (bcells bs)) ∧ Hid (OwnL wr w1.heap.size (.slice A2 (ls.length : Nat) c2) ls) ∧ Hid (wr.ownsRow w1.heap.size 5 1 (.slice A3 (r.length : Nat) c3) r.length (bcells r)) ∧
      Hid (OwnL wr w2.heap.size (.slice A4 (ms.length : Nat) c4) ms) ∧ Hid (wr.ownsRow w2.heap.size 5 1 (.slice A5 (r.length : Nat) c5) r.length (bcells r))) (fun i _ => n - (intOf i).toNat)
    case atStart => exact ⟨0, Nat.zero_le _, rfl, K3, HO, L3, S3, M3, T3⟩
    case round =>
      clear K3 HO L3 S3 M3 T3
      obtain ⟨k, hk, rfl, K, HO, L3, S3, M3, T3⟩ := hrel
      by_cases hlt : k < n
      · have hltI : (k : Int) < n := by omega
        obtain ⟨g, cap, hv, hBg, hg⟩ := HGL.out (by omega)
        injection hv with ea eb ec
        subst ea ec
        obtain ⟨bs, hbl, ho⟩ := HO.out
        have c0 := ho.cellAt k (by omega)
        have f0 := ho.frozenAt k
        rw [bcells_get (List.getElem?_eq_getElem (by omega : k < bs.length))] at c0
        have HST := Lib.hid (fun y : UInt8 => (ho.stored k (.int .u8 (y.toNat : Int))).1)
        have HBL := Lib.hid hbl
        generalize bs[k]'(by omega) = x at *
        obtain ⟨y, hplus⟩ : ∃ y : UInt8, ((x.toNat : Int) + 1) % 256 = (y.toNat : Int) := ⟨x + 1, by rw [UInt8.toNat_add]; simp⟩
        have HKN := Lib.hid (fun u => K.out.setCell (p := ⟨g, k, none⟩) hBg u)
        have HLN := Lib.hid (fun u => L3.out.far (p := ⟨g, k, none⟩) hg u)
        have HSN := Lib.hid (fun u => ownsRow_setCell_below S3.out (a := ⟨g, k, none⟩) hg u)
        have HMN := Lib.hid (fun u => M3.out.far (p := ⟨g, k, none⟩) (Nat.lt_of_lt_of_le hg HW12.out) u)
        have HTN := Lib.hid (fun u => ownsRow_setCell_below T3.out (a := ⟨g, k, none⟩) (Nat.lt_of_lt_of_le hg HW12.out) u)
        clear eb ho hbl HO K L3 S3 M3 T3
        go_wp2
        go_roundw
        case rel =>
          refine ⟨k + 1, by omega, by go_num, Lib.hid (HKN.out _), Lib.hid ⟨bs.set k y, by rw [List.length_set, HBL.out], ?_⟩, Lib.hid (HLN.out _), Lib.hid (HSN.out _), Lib.hid (HMN.out _), Lib.hid (HTN.out _)⟩
          rw [bcells_set]
          exact HST.out y
        case measure => simp [intOf]; omega
      · have hltI : ¬ (k : Int) < n := by omega
        obtain rfl : n = k := by omega
        have hvv : vals ls = vals ms := by rw [V2.out, V3.out]
        have hll : ls.length ≤ 1000000 := by
          have h1 := HAL.out
          rw [← V2.out, vals_len] at h1
          omega
        have HSm := Lib.hid (sCmds ls ms hvv hll A2 A4 c2 c4 wr (L3.out.reads rfl).1 (L3.out.reads rfl).2 (M3.out.reads rfl).1 (M3.out.reads rfl).2)
        generalize hXr : strB r = Y at *
        have HXr := Lib.hid hXr
        clear hvv hll hXr L3 M3 HAL V2 V3
        go_wp2_with (first
          | (go_at_call 23; (with_reducible refine HSm.out.mono ?_); rintro e w5 ⟨rfl, hb5⟩
             have K5 := Lib.hid (K.out.trans (hb5.mono K.out.size))
             have cv3 : (convert 22 9 (.slice A3 r.length c3)).run Tryd.prog w5 = .ok (.string Y) w5 := by rw [← HXr.out]; exact conv_back ((Reads.of_own S3.out).below hb5)
             have cv4 : (convert 22 9 (.slice A5 r.length c5)).run Tryd.prog w5 = .ok (.string Y) w5 := by rw [← HXr.out]; exact conv_back ((Reads.of_own T3.out).below hb5)
             have HH := Lib.hid (lHead38 B w5 (HL.out.call K5.out HB.out) (Nat.le_trans HB.out K5.out.size))
             clear hb5)
          | (go_at_call 15; (with_reducible refine HH.out.mono ?_); rintro e w6 ⟨rfl, hb6⟩
             have K6 := Lib.hid (K5.out.trans (hb6.mono K5.out.size))
             clear hb6))
        go_ret
        exact ⟨rfl, K6.out⟩
end Go.Proofs.YtljeecocbcffcaaDoor

/- LoaderBack, walked. -/
namespace Go.Proofs.YtljeecocbcffcaaDoor
open Go.RowKit
set_option linter.unusedSimpArgs false
set_option linter.unusedVariables false

/-- The commands that do not run a program. -/
def fltV (l : List CmdV) : List CmdV := l.filter fun x => !decide (x.kind = 0)
/-- A command that runs a program. -/
def CmdV.runs (r : CmdV) : CmdV := ⟨0, r.at_, r.dst, r.A, r.c, r.bytes⟩
theorem fltV_snoc {l : List CmdV} {k : Nat} {x : CmdV} (h : l[k]? = some x) : fltV (l.take (k + 1)) = if x.kind = 0 then fltV (l.take k) else fltV (l.take k) ++ [x] := by
  rw [List.take_add_one, h, Option.toList_some, fltV, List.filter_append]
  by_cases hk : x.kind = 0
  · simp [hk, fltV]
  · simp [hk, fltV]
theorem fltV_len (l : List CmdV) : (fltV l).length ≤ l.length := List.length_filter_le _ _
theorem back_runs (l : List CmdV) (r : CmdV) : Runs (vals (fltV l ++ [r.runs])) := by
  have h : ∀ m : List CmdV, (∀ x ∈ m, x.kind ≠ 0) → Runs (vals (m ++ [r.runs])) := by
    intro m
    induction m with
    | nil => intro _; exact .one _ rfl
    | cons x m ih =>
      intro hm
      exact .cons _ _ (hm x (by simp)) (ih fun y hy => hm y (by simp [hy]))
  refine h _ fun x hx => ?_
  have := (List.mem_filter.1 hx).2
  simpa using this
theorem errC_cases (l : List CmdL) : errC l = 2 ∨ errC l = 3 ∨ (errC l = 0 ∧ l.all mayC = true ∧ (putC l).length ≤ 1048576 ∧ putR l = putC l) := by
  unfold putR errC
  by_cases h1 : l.all mayC = true
  · rw [if_pos h1]
    by_cases h2 : sizeC l ≤ 1048576
    · rw [if_pos h2]
      exact .inr (.inr ⟨rfl, h1, by rw [← sizeC_len]; exact h2, by rw [if_pos rfl]⟩)
    · rw [if_neg h2]; exact .inr (.inl rfl)
  · rw [if_neg h1]; exact .inl rfl
theorem getB_put {l : List CmdL} (hr : Runs l) (hok : ∀ c ∈ l, COk c) (h : l.all mayC = true) (more : List UInt8) : getB (putC l ++ more) = some (l, more) := by
  refine getC_put hr more _ ?_ hok fun c hc => List.all_eq_true.1 h c hc
  have := putC_ge l
  rw [List.length_append]
  omega
theorem getB_cut {l : List CmdL} (hr : Runs l) (hok : ∀ c ∈ l, COk c) (h : l.all mayC = true) {cut : Nat} (hc : cut < (putC l).length) : getB ((putC l).take cut) = none :=
  getC_cut hr _ cut hok (fun c hc => List.all_eq_true.1 h c hc) hc
theorem VOk.runs {w : World} {B : Nat} {r : CmdV} (h : VOk w B r) : VOk w B r.runs := ⟨by simp [CmdV.runs], h.2.1, h.2.2.1, h.2.2.2⟩
theorem VsOk.back {w : World} {B : Nat} {l : List CmdV} {r : CmdV} (h : VsOk w B l) (hr : VOk w B r) : VsOk w B (fltV l ++ [r.runs]) := by
  intro x hx
  rcases List.mem_append.1 hx with hx | hx
  · exact h x (List.mem_filter.1 hx).1
  · rw [List.mem_singleton] at hx
    subst hx
    exact hr.runs
set_option maxRecDepth 100000 in
set_option maxHeartbeats 8000000 in
theorem lBackLaw (l : List CmdV) (hn : l.length ≤ 140737488355328) (hbb : ∀ x ∈ l, x.bytes.length ≤ 140737488355328) (A : Option Addr) (c : Nat) (r : CmdV) (more : List UInt8) (Am : Option Addr) (cm : Nat) (cut : Int) (B : Nat) (w : World)
    (hr : Reads w w.heap.size 4 A l.length (cmdsV l)) (hv : VsOk w w.heap.size l) (hvr : VOk w w.heap.size r) (hbr : r.bytes.length ≤ 140737488355328) (hm : Reads w w.heap.size 1 Am more.length (bcells more))
    (hc0 : -9223372036854775808 ≤ cut) (hc1 : cut ≤ 9223372036854775807) (hL : LaidW B w) (hB : B ≤ w.heap.size) :
    Calls Tryd.prog 6 #[.slice A (l.length : Nat) c, .agg r.cells, .agg #[.slice Am (more.length : Nat) cm, .int .i64 cut]] w (RetV (.bool true) w) := by
  obtain ⟨i0, hi0, hz0, hz1, hz2⟩ := info_parts byte_info
  obtain ⟨i1, hi1, hy0, hy1, hy2⟩ := info_parts cmd_info
  have HL := Lib.hid hL
  have HB := Lib.hid hB
  have HR := Lib.hid hr
  have HV := Lib.hid hv
  have HVR := Lib.hid hvr
  have HM := Lib.hid hm
  have HGr := Lib.hid (fun w1 (hb : Below w.heap.size w w1) => lGreat l hn A c w1 ((hr.below hb).more hb.size) hbb)
  have HNo := Lib.hid (fun h => greatC_not (l := l) h)
  have HSN := Lib.hid (fun (k : Nat) (x : CmdV) (hx : l[k]? = some x) => fltV_snoc hx)
  have HFL := Lib.hid (fun k => Nat.le_trans (fltV_len (l.take k)) (List.length_take_le k l))
  have HRU := Lib.hid (back_runs l r)
  have HVB := Lib.hid (hv.back hvr)
  have HBR := Lib.hid hbr
  have HBB := Lib.hid hbb
  obtain ⟨n, hnn⟩ : ∃ n, l.length = n := ⟨_, rfl⟩
  have HNN := Lib.hid hnn
  rw [hnn] at HR HGr HNo hn ⊢
  obtain ⟨nm, hnm⟩ : ∃ n, more.length = n := ⟨_, rfl⟩
  have HNM := Lib.hid hnm
  rw [hnm] at HM ⊢
  obtain ⟨W0, hW0⟩ : ∃ W0, (w.alloc (.cells r.cells 38)).alloc (.cells #[.slice Am nm cm, .int .i64 cut] 50) = W0 := ⟨_, rfl⟩
  have K0 : Hid (Below w.heap.size w W0) := Lib.hid (by rw [← hW0]; exact ((Below.refl _ _).alloc (Nat.le_refl _) _).alloc (by simp) _)
  have b4 : Blk W0 w.heap.size 38 r.cells := by rw [← hW0]; exact (Blk.new w _ _).alloc _
  have b5 : Blk W0 (w.heap.size + 1) 50 #[.slice Am nm cm, .int .i64 cut] := by
    rw [← hW0]
    have := Blk.new (w.alloc (.cells r.cells 38)) 50 #[.slice Am nm cm, .int .i64 cut]
    simpa using this
  clear hr hv hvr hm hL hbb hnn hnm hbr
  simp only [CmdV.cells, cmdC] at hW0 b4 ⊢
  go_enter Tryd.func6, Tryd.ntmps6
  go_upto_region 1 with (fail)
  clear hW0
  have d0 := b5.cell 0
  have d1 := b5.cell 1
  simp at d0 d1
  go_quiet (fail)
  have K1 := Lib.hid (below_drewN K0.out nq)
  have b4' : Blk (W0.drewN nq) w.heap.size 38 #[.int .u8 r.kind, .int .i32 r.at_, .int .i32 r.dst, .slice r.A r.bytes.length r.c] := b4.drewN nq
  clear d0 d1 b5 b4 K0
  generalize W0.drewN nq = W1 at *
  have HH := Lib.hid (fun w1 (hb : Below w.heap.size w w1) => lHead38 B w1 (HL.out.call hb HB.out) (Nat.le_trans HB.out hb.size))
  have HGr1 := Lib.hid (HGr.out W1 K1.out)
  clear HGr HL
  cases hg : greatC l with
  | true =>
    rw [hg] at HGr1
    clear hg HNo
    go_wp2_with (first
      | (go_at_call 16; (with_reducible refine HGr1.out.mono ?_); rintro e w2 ⟨rfl, hb2⟩
         have K2 := Lib.hid (K1.out.trans (hb2.mono K1.out.size))
         have HH2 := Lib.hid (HH.out w2 K2.out)
         clear hb2)
      | (go_at_call 15; (with_reducible refine HH2.out.mono ?_); rintro e w3 ⟨rfl, hb3⟩
         have K3 := Lib.hid (K2.out.trans (hb3.mono K2.out.size))
         clear hb3))
    go_ret
    exact ⟨rfl, K3.out⟩
  | false =>
    rw [hg] at HGr1
    have HN := Lib.hid (HNo.out hg)
    clear hg HNo
    by_cases hmo : 100000 < nm
    · have hmoI : (100000 : Int) < nm := by omega
      go_wp2_with (first
        | (go_at_call 16; (with_reducible refine HGr1.out.mono ?_); rintro e w2 ⟨rfl, hb2⟩
           have K2 := Lib.hid (K1.out.trans (hb2.mono K1.out.size))
           have HH2 := Lib.hid (HH.out w2 K2.out)
           clear hb2)
        | (go_at_call 15; (with_reducible refine HH2.out.mono ?_); rintro e w3 ⟨rfl, hb3⟩
           have K3 := Lib.hid (K2.out.trans (hb3.mono K2.out.size))
           clear hb3))
      go_ret
      exact ⟨rfl, K3.out⟩
    · have hmoI : ¬ (100000 : Int) < nm := by omega
      have hn100 := HN.out.1
      have z4 := b4'.cell 0
      have f4 := b4'.frozen 0
      simp at z4
      go_upto_region 4 with (first
        | (go_at_call 16; (with_reducible refine HGr1.out.mono ?_); rintro e w2 ⟨rfl, hb2⟩
           have K2 := Lib.hid (K1.out.trans (hb2.mono K1.out.size))
           have b42 := b4'.call hb2
           clear hb2))
      clear z4 f4 b4' K1 HGr1
      have z4 := b42.cell 0
      have f4 := b42.frozen 0
      simp at z4
      go_upto_region 7 with (fail)
      have K3 := Lib.hid (K2.out.setCell (p := ⟨w.heap.size, 0, none⟩) (Nat.le_refl _) (.int .u8 0))
      have b43 := Lib.hid (b42.set_ 0 (.int .u8 0))
      simp at b43
      clear z4 f4 b42 K2
      generalize w2.setCell ⟨w.heap.size, 0, none⟩ (.int .u8 0) = W3 at *
      go_loopw [9, 10] (fun v i wr => ∃ k : Nat, k ≤ n ∧ i = .int .i64 k ∧ Hid (Below W3.heap.size W3 wr) ∧ Hid (wr.ownsRow W3.heap.size 38 4 v (fltV (l.take k)).length (cmdsV (fltV (l.take k))))) (fun _ i _ => n - (intOf i).toNat)
      case atStart => exact ⟨0, Nat.zero_le _, rfl, Lib.hid (Below.refl _ _), Lib.hid (World.ownsRow_nil _ _ _ _)⟩
      case round =>
        obtain ⟨k, hk, rfl, K, O⟩ := hrel
        by_cases hlt : k < n
        · have hltI : (k : Int) < n := by omega
          obtain ⟨b, off, x, rfl, hb, hx, c0, c1, c2, c3⟩ := cmds_at ((HR.out.below K3.out).below (K.out.mono K3.out.size)) hlt
          have HSx := Lib.hid (HSN.out k x hx)
          have HFx := HFL.out k
          by_cases hk0 : x.kind = 0
          · have hkz : ((x.kind : Int) != 0) = false := by rw [hk0]; rfl
            clear hx
            go_wp2
            go_roundw
            case rel => exact ⟨k + 1, by omega, by go_num, K, Lib.hid (by rw [HSx.out, if_pos hk0]; exact O.out)⟩
            case measure => simp [intOf]; omega
          · have hkz : ((x.kind : Int) != 0) = true := by simp; omega
            have O1 := Lib.hid (O.out.alloc (.cells x.cells 38))
            have K1 := Lib.hid (K.out.alloc K.out.size (.cells x.cells 38))
            have bn := Blk.new wr 38 x.cells
            clear hx
            simp only [CmdV.cells, cmdC] at O1 K1 bn
            go_wp2_with (at_builtin; go_loud (refine wpList_app_own rfl (.tmp 45) (.tmp 50) rfl Tryd.underlying33 hi1 hy0 hy1 hy2 rfl (by decide) O1.out K1.out.size rfl wr.heap.size 1 1 #[.int .u8 x.kind, .int .i32 x.at_, .int .i32 x.dst, .slice x.A x.bytes.length x.c] rfl bn rfl (by simp [Value.oneCell']) (by omega) (by omega) ?_); intro v9 w9 hown9 hg9 hb9
                         have K9 := Lib.hid (K1.out.trans hb9)
                         have O9 : Hid (w9.ownsRow W3.heap.size 38 4 v9 (fltV (l.take (k + 1))).length (cmdsV (fltV (l.take (k + 1))))) := Lib.hid (by
                           rw [HSx.out, if_neg hk0, cmdsV_append, List.length_append]
                           have e : cmdsV [x] = x.cells.toList := by simp [cmdsV]
                           rw [e]
                           exact hown9)
                         clear hown9 hg9 hb9)
            go_roundw
            case rel => exact ⟨k + 1, by omega, by go_num, K9, O9⟩
            case measure => simp [intOf]; omega
        · have hltI : ¬ (k : Int) < n := by omega
          obtain rfl : n = k := by omega
          rw [List.take_of_length_le (by rw [HNN.out]; omega)] at O
          have hfl := HFL.out n
          rw [List.take_of_length_le (by rw [HNN.out]; omega)] at hfl
          have b4w := b43.out.below K.out b43.out.lt
          have e0 := b4w.cell 0
          have e1 := b4w.cell 1
          have e2 := b4w.cell 2
          have e3 := b4w.cell 3
          simp at e0 e1 e2 e3
          have O1 := Lib.hid (O.out.alloc (.cells #[.int .u8 0, .int .i32 r.at_, .int .i32 r.dst, .slice r.A r.bytes.length r.c] 38))
          have K1 := Lib.hid (K.out.alloc K.out.size (.cells #[.int .u8 0, .int .i32 r.at_, .int .i32 r.dst, .slice r.A r.bytes.length r.c] 38))
          have bn := Blk.new wr 38 #[.int .u8 0, .int .i32 r.at_, .int .i32 r.dst, .slice r.A r.bytes.length r.c]
          have hrow := cmdsV_append (fltV l) [r.runs]
          have hrow1 : cmdsV [r.runs] = [.int .u8 0, .int .i32 r.at_, .int .i32 r.dst, .slice r.A r.bytes.length r.c] := by simp [cmdsV, CmdV.runs, CmdV.cells, cmdC]
          rw [hrow1] at hrow
          have HROW := Lib.hid hrow
          have hall1 : (fltV l ++ [r.runs]).length = (fltV l).length + 1 := by simp
          have HAL1 := Lib.hid hall1
          clear hrow hrow1 hall1 b4w
          obtain ⟨al, hal⟩ : ∃ al, fltV l ++ [r.runs] = al := ⟨_, rfl⟩
          have HAL := Lib.hid hal
          rw [hal] at HRU HVB HROW HAL1
          clear hal
          go_upto_region 12 with (at_builtin; go_loud (refine wpList_app_own rfl (.tmp 52) (.tmp 54) rfl Tryd.underlying33 hi1 hy0 hy1 hy2 rfl (by decide) O1.out K1.out.size rfl wr.heap.size 1 1 #[.int .u8 0, .int .i32 r.at_, .int .i32 r.dst, .slice r.A r.bytes.length r.c] rfl bn rfl (by simp [Value.oneCell']) (by omega) (by omega) ?_); intro v9 w9 hown9 hg9 hb9
                                  have K9 := Lib.hid (K3.out.trans ((K1.out.trans hb9).mono K3.out.size))
                                  have O9 : Hid (w9.ownsRow W3.heap.size 38 4 v9 al.length (cmdsV al)) := Lib.hid (by rw [HROW.out, HAL1.out]; exact hown9)
                                  clear hown9 hg9 hb9)
          clear e0 e1 e2 e3 O1 K1 bn O K HSN
          obtain ⟨A9, c9, rfl⟩ := own_form O9.out
          have haln : al.length ≤ 101 := by rw [HAL1.out]; omega
          have hab : ∀ x ∈ al, x.bytes.length ≤ 140737488355328 := by
            rw [← HAL.out]
            intro x hx
            rcases List.mem_append.1 hx with hx | hx
            · exact HBB.out x (List.mem_filter.1 hx).1
            · rw [List.mem_singleton] at hx
              subst hx
              exact HBR.out
          have RD9 := Lib.hid (Reads.of_own O9.out)
          have VS9 := Lib.hid ((HVB.out.below K9.out).more K9.out.size)
          have HP := Lib.hid (lPut al (by omega) hab A9 c9 w9 RD9.out VS9.out)
          have HCOK := Lib.hid VS9.out.cok
          clear hab O9 HBB HBR HAL HROW HV HVR HR HVB
          rcases errC_cases (vals al) with hE | hE | ⟨hE, hall, hlen, hput⟩
          · have HE := Lib.hid hE
            clear hE
            go_wp2_with (first
              | (go_at_call 19; (with_reducible refine HP.out.mono ?_); rintro e w10 ⟨hb10, v10, he, ho10⟩
                 rw [HE.out] at he
                 subst he
                 have K10 := Lib.hid (K9.out.trans (hb10.mono K9.out.size))
                 have HH10 := Lib.hid (HH.out w10 K10.out)
                 clear hb10 ho10)
              | (go_at_call 15; (with_reducible refine HH10.out.mono ?_); rintro e w11 ⟨rfl, hb11⟩
                 have K11 := Lib.hid (K10.out.trans (hb11.mono K10.out.size))
                 clear hb11))
            go_ret
            exact ⟨rfl, K11.out⟩
          · have HE := Lib.hid hE
            clear hE
            go_wp2_with (first
              | (go_at_call 19; (with_reducible refine HP.out.mono ?_); rintro e w10 ⟨hb10, v10, he, ho10⟩
                 rw [HE.out] at he
                 subst he
                 have K10 := Lib.hid (K9.out.trans (hb10.mono K9.out.size))
                 have HH10 := Lib.hid (HH.out w10 K10.out)
                 clear hb10 ho10)
              | (go_at_call 15; (with_reducible refine HH10.out.mono ?_); rintro e w11 ⟨rfl, hb11⟩
                 have K11 := Lib.hid (K10.out.trans (hb11.mono K10.out.size))
                 clear hb11))
            go_ret
            exact ⟨rfl, K11.out⟩
          · have HE := Lib.hid hE
            have HPU := Lib.hid hput
            have HG1 := Lib.hid (getB_put HRU.out HCOK.out hall more)
            have HG2 := Lib.hid (fun (k : Nat) (hk : k < (putC (vals al)).length) => getB_cut HRU.out HCOK.out hall hk)
            clear hE hput hall
            generalize putC (vals al) = P at *
            obtain ⟨np, hnp⟩ : ∃ np, P.length = np := ⟨_, rfl⟩
            have HNP := Lib.hid hnp
            rw [hnp] at hlen
            clear hnp
            go_upto_region 15 with (go_at_call 19; (with_reducible refine HP.out.mono ?_); rintro e w10 ⟨hb10, v10, he, ho10⟩
                                    rw [HE.out] at he
                                    rw [HPU.out] at ho10
                                    subst he
                                    have K10 := Lib.hid (K9.out.trans (hb10.mono K9.out.size))
                                    have N10 := Lib.hid hb10
                                    have O10 : Hid (w10.ownsRow w9.heap.size 5 1 v10 np (bcells P)) := Lib.hid (by rw [← HNP.out]; exact ho10)
                                    clear hb10 ho10)
            clear HP HE HPU
            obtain ⟨A10, c10, rfl⟩ := own_form O10.out
            have HN0 : Hid ((w10.alloc (.cells #[] 5)).ownsRow w10.heap.size 5 1 (.slice (some ⟨w10.heap.size, 0, none⟩) 0 0) 0 []) := Lib.hid (own_lit w10 5 #[] rfl (by decide))
            have K0 := Lib.hid ((Below.refl w10.heap.size w10).alloc (Nat.le_refl _) (.cells #[] 5))
            have R0 := Lib.hid ((Reads.of_own O10.out).below K0.out)
            have N11 := Lib.hid (N10.out.trans (K0.out.mono N10.out.size))
            go_upto_region 16 with (first
              | (at_builtin; go_loud (refine wpList_append_any _ rfl (.tmp 72) (.tmp 73) 22 rfl w10.heap.size 5 i0 _ 1 1 Tryd.underlying22 hi0 hz0 hz1 hz2 rfl (by decide) _ _ _ rfl HN0.out _ A10 np c10 (bcells P) rfl R0.out (bcells_one P) (by unfold maxLen; omega) (by omega) K0.out.size ?_); intro v11 w11 hown hg hat
                 have K11 := Lib.hid (K0.out.grown hg K0.out.size (fun g e => (HN0.out.lt g e).1))
                 have O11 : Hid (w11.ownsRow w10.heap.size 5 1 v11 np (bcells P)) := Lib.hid (by simpa using hown)
                 have R11 := Lib.hid (HM.out.below (K10.out.trans (K11.out.mono K10.out.size)))
                 clear hown hg hat)
              | (at_builtin; go_loud (refine wpList_append_any _ rfl (.tmp 74) (.tmp 75) 22 rfl w10.heap.size 5 i0 _ 1 1 Tryd.underlying22 hi0 hz0 hz1 hz2 rfl (by decide) _ _ _ rfl O11.out _ Am nm cm (bcells more) rfl R11.out (bcells_one more) (by unfold maxLen; omega) (by omega) K11.out.size ?_); intro v12 w12 hown hg hat
                 have K12 := Lib.hid (K11.out.grown hg K11.out.size (fun g e => (O11.out.lt g e).1))
                 have O12 : Hid (w12.ownsRow w10.heap.size 5 1 v12 (np + nm) (bcells (P ++ more))) := Lib.hid (by rw [bcells_append]; exact hown)
                 clear hown hg hat))
            obtain ⟨A12, c12, rfl⟩ := own_form O12.out
            have hln : (P ++ more).length = np + nm := by rw [List.length_append, HNM.out, HNP.out]
            have KW := Lib.hid (K10.out.trans (K12.out.mono K10.out.size))
            have N12 := Lib.hid (N10.out.trans (K12.out.mono N10.out.size))
            have RP := Lib.hid ((Reads.of_own O10.out).below K12.out)
            have HZ12 := Lib.hid K12.out.size
            have hgt := lGet (P ++ more) (by omega) A12 c12 (by rw [hln]; exact own_cap O12.out) w12 (by rw [hln]; exact Reads.of_own O12.out)
            rw [HG1.out, hln] at hgt
            have HGT := Lib.hid hgt
            clear hgt hln HN0 K0 R0 N11 K12 N10 HG1 K11 O11 R11
            have HALN := Lib.hid haln
            clear haln
            go_upto_region 17 with (go_at_call 21; (with_reducible refine HGT.out.mono ?_); rintro e w13 ⟨hb13, v13, u13, ls, rfl, hvl, hol, hor⟩
                                    obtain ⟨A13, c13, rfl⟩ := own_form hol.1
                                    obtain ⟨A14, c14, rfl⟩ := own_form hor
                                    have KW13 := Lib.hid (KW.out.trans (hb13.mono KW.out.size))
                                    have N13 := Lib.hid (N12.out.trans (hb13.mono N12.out.size))
                                    have RP13 := Lib.hid (RP.out.below (hb13.mono HZ12.out))
                                    have HSm := Lib.hid (sCmds ls al hvl (by have := congrArg List.length hvl; rw [vals_len, vals_len] at this; have := HALN.out; omega) A13 A9 c13 c9 w13 (hol.reads rfl).1 (hol.reads rfl).2 ((RD9.out.below N13.out).more N13.out.size) ((VS9.out.below N13.out).more N13.out.size))
                                    have OM13 := Lib.hid hor
                                    have HZ13 : Hid (w10.heap.size ≤ w13.heap.size) := Lib.hid (Nat.le_trans HZ12.out hb13.size)
                                    clear hb13 hvl hol hor)
            clear RD9 VS9 HGT K10 KW RP HZ12 N12 O12 HRU HCOK
            generalize hXr : strB more = Y at *
            have HXr := Lib.hid hXr
            clear hXr
            have hcap := own_cap O10.out
            clear O10
            by_cases hcn : cut < 0
            · go_wp2_with (first
                | (go_at_call 23; (with_reducible refine HSm.out.mono ?_); rintro e w15 ⟨rfl, hb15⟩
                   have K15 := Lib.hid (KW13.out.trans (hb15.mono KW13.out.size))
                   have cv3 : (convert 22 9 (.slice A14 more.length c14)).run Tryd.prog w15 = .ok (.string Y) w15 := by rw [← HXr.out]; exact conv_back ((Reads.of_own OM13.out).below hb15)
                   have cv4 : (convert 22 9 (.slice Am nm cm)).run Tryd.prog w15 = .ok (.string Y) w15 := by rw [← HXr.out]; exact conv_back (HM.out.below K15.out)
                   have HH15 := Lib.hid (HH.out w15 K15.out)
                   clear hb15)
                | (go_at_call 15; (with_reducible refine HH15.out.mono ?_); rintro e w16 ⟨rfl, hb16⟩
                   have K16 := Lib.hid (K15.out.trans (hb16.mono K15.out.size))
                   clear hb16))
              go_ret
              exact ⟨rfl, K16.out⟩
            · by_cases hcb : (np : Int) ≤ cut
              · go_wp2_with (first
                  | (go_at_call 23; (with_reducible refine HSm.out.mono ?_); rintro e w15 ⟨rfl, hb15⟩
                     have K15 := Lib.hid (KW13.out.trans (hb15.mono KW13.out.size))
                     have cv3 : (convert 22 9 (.slice A14 more.length c14)).run Tryd.prog w15 = .ok (.string Y) w15 := by rw [← HXr.out]; exact conv_back ((Reads.of_own OM13.out).below hb15)
                     have cv4 : (convert 22 9 (.slice Am nm cm)).run Tryd.prog w15 = .ok (.string Y) w15 := by rw [← HXr.out]; exact conv_back (HM.out.below K15.out)
                     have HH15 := Lib.hid (HH.out w15 K15.out)
                     clear hb15)
                  | (go_at_call 15; (with_reducible refine HH15.out.mono ?_); rintro e w16 ⟨rfl, hb16⟩
                     have K16 := Lib.hid (K15.out.trans (hb16.mono K15.out.size))
                     clear hb16))
                go_ret
                exact ⟨rfl, K16.out⟩
              · obtain ⟨k, rfl⟩ : ∃ k : Nat, cut = k := ⟨cut.toNat, by omega⟩
                have hk0 : (0 : Int) ≤ (k : Int) := by omega
                have hkc : (k : Int) ≤ (c10 : Nat) := by omega
                have hkn : ¬ (np : Int) ≤ (k : Int) := hcb
                have HKN : Hid (k < np) := Lib.hid (by omega)
                have HGK := Lib.hid (HG2.out k (by rw [HNP.out]; omega))
                have HLP : Hid ((P.take k).length = k) := Lib.hid (by rw [List.length_take, HNP.out]; omega)
                go_upto_region 21 with (first
                  | (go_at_call 23; (with_reducible refine HSm.out.mono ?_); rintro e w15 ⟨rfl, hb15⟩
                     have K15 := Lib.hid (KW13.out.trans (hb15.mono KW13.out.size))
                     have cv3 : (convert 22 9 (.slice A14 more.length c14)).run Tryd.prog w15 = .ok (.string Y) w15 := by rw [← HXr.out]; exact conv_back ((Reads.of_own OM13.out).below hb15)
                     have cv4 : (convert 22 9 (.slice Am nm cm)).run Tryd.prog w15 = .ok (.string Y) w15 := by rw [← HXr.out]; exact conv_back (HM.out.below K15.out)
                     have HGC := Lib.hid (lGet (P.take k) (by rw [HLP.out]; omega) A10 c10 (by rw [HLP.out]; omega) w15 (by rw [HLP.out]; exact ((RP13.out.below (hb15.mono HZ13.out)).more (Nat.le_trans HZ13.out hb15.size)).pre (Nat.le_of_lt HKN.out)))
                     clear hb15))
                rw [HGK.out, HLP.out] at HGC
                clear cv3 cv4 HGK HLP
                go_wp2_with (first
                  | (go_at_call 21; (with_reducible refine HGC.out.mono ?_); rintro e w16 ⟨hb16, rfl⟩
                     have K16 := Lib.hid (K15.out.trans (hb16.mono K15.out.size))
                     have HH16 := Lib.hid (HH.out w16 K16.out)
                     clear hb16)
                  | (go_at_call 15; (with_reducible refine HH16.out.mono ?_); rintro e w17 ⟨rfl, hb17⟩
                     have K17 := Lib.hid (K16.out.trans (hb17.mono K16.out.size))
                     clear hb17))
                go_ret
                exact ⟨rfl, K17.out⟩
end Go.Proofs.YtljeecocbcffcaaDoor

/- How commands that came in read, with what they weigh. -/
namespace Go.Proofs.YtljeecocbcffcaaDoor
open Go.ChangeShapes Go.WideShapes Go.ChangeAt Go.RowKit

instance : Inhabited CmdV := ⟨⟨0, 0, 0, none, 0, []⟩⟩
section
variable {H : Type} {enc : TypeId × Value → H} {P : Program} {w : World} {base : Nat} {sp : Nat → Bool} {held : Bool} {fuel : Nat} {t : TypeId} {cs : List Value} {y : DataW H × List MemPlace}
/-- A slice that came in holds no more than can be reached. -/
theorem slice_weight {e : TypeId} (ht : P.underlying t = some (.slice e)) (h : DataW.trod enc P w base sp held fuel t cs = some y) (hw : Light P t y.1) {A : Option Addr} {m c : Nat} (hcs : cs = [.slice A m c]) : m * P.bytesOf e ≤ reachBytes := by
  subst hcs
  rcases trod_slice_inv2 ht h with h0 | ⟨a, m', cap, f, elems, spare, h2, h3, h4, hy, h5⟩
  · injection h0 with h0 _
    injection h0 with e1 e2 e3
    subst e2
    omega
  · injection h2 with h2 _
    injection h2 with e1 e2 e3
    subst e2
    rw [hy] at hw
    have hc := hw.count ht
    have hm : m ≤ elems.length := by
      rcases Nat.lt_or_ge elems.length m with hlt | hge
      · obtain ⟨c', z, -, -, he⟩ := h5 elems.length hlt
        rw [List.getElem?_eq_none (Nat.le_refl _)] at he
        cases he
      · exact hge
    exact Nat.le_trans (Nat.mul_le_mul_right _ hm) hc
theorem fsCmd : Tryd.prog.underlying 38 = some (.struct #[⟨ "Kind", 36, 0, false, "", "", 0⟩, ⟨ "At", 21, 1, false, "", "", 4⟩, ⟨ "To", 21, 2, false, "", "", 8⟩, ⟨ "Bytes", 22, 3, false, "", "", 16⟩]) := by kernel_rfl
theorem reach_num : reachBytes ≤ 140737488355328 := by decide
/-- What a command that came in keeps. -/
def CmdIn (w : World) (x : CmdV) : Prop := VOk w w.heap.size x ∧ x.bytes.length ≤ 140737488355328 ∧ x.bytes.length ≤ x.c
set_option maxRecDepth 100000 in
theorem open_cmd (h : DataW.trod enc Tryd.prog w base sp held fuel 38 cs = some y) (hw : Light Tryd.prog 38 y.1) : ∃ x : CmdV, cs = x.cells.toList ∧ CmdIn w x := by
  obtain ⟨f, parts, hl, hy, hx⟩ := trod_struct_inv2 fsCmd h
  rw [hy] at hw
  have hl2 : cs.length = 4 := by rw [hl]; kernel_rfl
  have e3 : Tryd.prog.cellsOf 36 = 1 := by kernel_rfl
  have e4 : Tryd.prog.cellsOf 21 = 1 := by kernel_rfl
  have e9 : Tryd.prog.cellsOf 22 = 1 := by kernel_rfl
  have eb : Tryd.prog.bytesOf 5 = 1 := by kernel_rfl
  match cs, hl2 with
  | [v0, v1, v2, v3], _ =>
    obtain ⟨z0, h0, q0⟩ := hx 0 _ rfl
    obtain ⟨z1, h1, q1⟩ := hx 1 _ rfl
    obtain ⟨z2, h2, q2⟩ := hx 2 _ rfl
    obtain ⟨z3, h3, q3⟩ := hx 3 _ rfl
    have l3 := hw.part fsCmd (j := 3) rfl q3
    simp only at h0 h1 h2 h3 l3
    obtain ⟨a, ha, wa⟩ := trod_int_inv Tryd.underlying36 h0
    obtain ⟨b, hb, wb⟩ := trod_int_inv Tryd.underlying21 h1
    obtain ⟨d, hd, wd⟩ := trod_int_inv Tryd.underlying21 h2
    obtain ⟨A, c, bs, hs, hr, hc⟩ := open_bytesW h3 l3
    have hwt := slice_weight Tryd.underlying22 h3 l3 hs
    rw [eb, Nat.mul_one] at hwt
    simp only [e3, e4, e9] at ha hb hd hs
    simp at ha hb hd hs
    subst ha hb hd hs
    have ba := u8_bounds wa
    have bb := i32_bounds wb
    have bd := i32_bounds wd
    refine ⟨⟨a.toNat, b, d, A, c, bs⟩, ?_, ⟨by simp only; omega, bb, bd, hr⟩, Nat.le_trans hwt reach_num, hc⟩
    simp only [CmdV.cells, cmdC]
    rw [show ((a.toNat : Nat) : Int) = a by omega]
theorem open_cmds (h : DataW.trod enc Tryd.prog w base sp held fuel 33 cs = some y) (hw : Light Tryd.prog 33 y.1) :
    ∃ A c ls, cs = [.slice A (ls.length : Nat) c] ∧ Reads w w.heap.size 4 A ls.length (cmdsV ls) ∧ (∀ x ∈ ls, CmdIn w x) ∧ ls.length ≤ 140737488355328 := by
  obtain ⟨A, m, c, ls, rfl, hr, rfl, ho, -, -⟩ := open_slice_of (α := CmdV) (R := CmdIn w) (cells := fun x => x.cells.toList) (size := 4) (by kernel_rfl) (by decide) (fun x => by simp [CmdV.cells, cmdC]) Tryd.underlying33 (fun f c z h1 h2 => open_cmd h1 h2) h hw
  have hwt := slice_weight Tryd.underlying33 h hw rfl
  have eb : Tryd.prog.bytesOf 38 = 40 := by kernel_rfl
  rw [eb] at hwt
  have := reach_num
  exact ⟨A, c, ls, rfl, hr, ho, by omega⟩
theorem fsTail : Tryd.prog.underlying 50 = some (.struct #[⟨ "More", 22, 0, false, "", "", 0⟩, ⟨ "Cut", 3, 1, false, "", "", 24⟩]) := by kernel_rfl
set_option maxRecDepth 100000 in
theorem open_tail (h : DataW.trod enc Tryd.prog w base sp held fuel 50 cs = some y) (hw : Light Tryd.prog 50 y.1) :
    ∃ (A : Option Addr) (c : Nat) (l : List UInt8) (k : Int), cs = [.slice A (l.length : Nat) c, .int .i64 k] ∧ Reads w w.heap.size 1 A l.length (bcells l) ∧ -9223372036854775808 ≤ k ∧ k ≤ 9223372036854775807 := by
  obtain ⟨f, parts, hl, hy, hx⟩ := trod_struct_inv2 fsTail h
  rw [hy] at hw
  have hl2 : cs.length = 2 := by rw [hl]; kernel_rfl
  have e3 : Tryd.prog.cellsOf 3 = 1 := by kernel_rfl
  have e9 : Tryd.prog.cellsOf 22 = 1 := by kernel_rfl
  match cs, hl2 with
  | [v0, v1], _ =>
    obtain ⟨z0, h0, q0⟩ := hx 0 _ rfl
    obtain ⟨z1, h1, q1⟩ := hx 1 _ rfl
    have l0 := hw.part fsTail (j := 0) rfl q0
    simp only at h0 h1 l0
    obtain ⟨A, c, bs, hs, hr, hc⟩ := open_bytesW h0 l0
    obtain ⟨k, hk, wk⟩ := trod_int_inv Tryd.underlying3 h1
    simp only [e3, e9] at hs hk
    simp at hs hk
    subst hs hk
    have bk := (Lit.wf_int_iff _ _).1 wk
    simp [IntKind.min, IntKind.max, IntKind.signed, IntKind.bits] at bk
    exact ⟨A, c, bs, k, rfl, hr, by omega, by omega⟩
end
end Go.Proofs.YtljeecocbcffcaaDoor
