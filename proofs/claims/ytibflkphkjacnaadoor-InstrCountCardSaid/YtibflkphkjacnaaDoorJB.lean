
/- The law InstrCount, walked. -/
import Derived.Test.YtibflkphkjacnaaDoorJA
import Derived.Test.YtibflkphkjacnaaDoorJ6
namespace Go.Proofs.YtibflkphkjacnaaDoor
open Go.RowKit Go.Maps Go.WideMaps

theorem grown_of {w w1 : World} {row : Option Nat} (hb : Below w.heap.size w w1) : w.grownBy w1 row := ⟨hb.os, hb.tape, hb.output, hb.size, fun k hk _ => hb.block k hk⟩
theorem S5.grown {B : Nat} {w0 w w1 : World} {b : Nat} (h : S5 B w0 w) (hg : w.grownBy w1 (some b)) (hB : B ≤ w0.heap.size) (hb : w0.heap.size ≤ b) : S5 B w0 w1 := by
  have k1 : Below w0.heap.size w0 w1 := h.k.grown hg h.k.size (fun k e => by injection e; omega)
  have k2 : Below B w w1 := (Below.refl B w).grown hg h.b (fun k e => by injection e; omega)
  exact ⟨h.l.on k2, Nat.le_trans h.b hg.size, k1⟩
theorem lawS : Keyed Tryd.prog 9 := string_keyed Tryd.underlying9
abbrev uT : DataW Unit := .lit (.bool true)
abbrev Own (w : World) (b n : Nat) (l : List Lit) : Prop := w.ownsMap Tryd.prog 9 (plainElem (H := Unit) Tryd.prog 4) b n (Maps.setOf uT l)
set_option maxRecDepth 100000 in
theorem row_name_key {r : IRow} (h : r.name.length ≤ 12) : keyOf Tryd.prog 9 (.string (strB r.name)) = some (.string r.name) := by
  have h1 := keyOf_string_mk (P := Tryd.prog) Tryd.underlying9 (s := strB r.name) (by rw [strB_size]; unfold maxLen; omega)
  have e : (strB r.name).data.toList = r.name := by simp [strB]
  rwa [e] at h1
theorem u8_nat {k : Nat} (h : k < 256) : IntKind.u8.wrap (k : Int) = (k : Int) := by rw [IntKind.wrap_u8]; omega
theorem i32_nat {k : Nat} (h : k < 256) : IntKind.i32.wrap (k : Int) = (k : Int) := by rw [IntKind.wrap_i32]; omega

set_option maxRecDepth 100000 in
set_option maxHeartbeats 4000000 in
theorem count_true (B : Nat) (w : World) (hL : Laid5 B w) (hB : B ≤ w.heap.size) :
    Calls Tryd.prog 7 #[] w (RetV (.bool true) w) := by
  have hmm := @run_makeMap Tryd.prog
  have hS := (S5.start hL hB).alloc (.map #[] 0)
  have HN := Lib.hid (fun (k j : Nat) (hk : k < 256) w h1 h2 => pName (k : Int) (j : Int) (by omega) B w h1 h2)
  have HE := Lib.hid (fun (k j : Nat) (hk : k < 256) w h1 h2 => pEffect (k : Int) (j : Int) (by omega) B w h1 h2)
  have HA := Lib.hid (fun w h1 h2 => awake_yes B w h1 h2)
  have hO : Own (w.alloc (.map #[] 0)) w.heap.size 0 (RK 0) := World.ownsMap_made _ _ _ _
  clear hL
  go_enter Tryd.func7, Tryd.ntmps7
  go_wp2
  go_loopw [2, 3, 13] (fun a b i wr => ∃ k n : Nat, k ≤ 256 ∧ i = .int .i64 k ∧ a = .int .i64 (cF k) ∧ b = .int .i64 (oB k) ∧ n ≤ 256 * k ∧ Hid (Own wr w.heap.size n (RK k)) ∧ Hid (S5 B w wr)) (fun _ _ i _ => 256 - (intOf i).toNat)
  case atStart => exact ⟨0, 0, by omega, rfl, rfl, rfl, by omega, Lib.hid hO, Lib.hid hS⟩
  case round =>
    clear hO hS
    obtain ⟨k, n, hk, rfl, rfl, rfl, hn, HO, HS⟩ := hrel
    by_cases hlt : k < 256
    · have hltI : (k : Int) < 256 := by omega
      obtain ⟨wo, hwo⟩ : ∃ wo : World, wo = wr := ⟨_, rfl⟩
      rw [← hwo] at HO HS ⊢
      clear hwo
      go_wp2
      go_loopw [2, 3, 16] (fun a b i wr => ∃ j n : Nat, j ≤ 256 ∧ i = .int .i64 j ∧ a = .int .i64 (iF k j) ∧ b = .int .i64 (iO k j) ∧ n ≤ 256 * k + j ∧ Hid (Own wr w.heap.size n (RK k ++ inner k j)) ∧ Hid (S5 B w wr)) (fun _ _ i _ => 256 - (intOf i).toNat)
      case atStart => exact ⟨0, n, by omega, rfl, by rw [iF_zero], by rw [iO_zero], by omega, Lib.hid (by have h := HO.out; simpa [inner] using h), HS⟩
      case round =>
        clear HO HS hn
        obtain ⟨j, n, hj, rfl, rfl, rfl, hn, HO, HS⟩ := hrel
        by_cases hjt : j < 256
        · have hjtI : (j : Int) < 256 := by omega
          have hS1 := HS.out.alloc (.cells #[.int .u8 k, .int .i32 j] 23)
          have HS1 := Lib.hid hS1
          have bx := Blk.new wr 23 #[.int .u8 k, .int .i32 j]
          have hO1 := HO.out.alloc (.cells #[.int .u8 k, .int .i32 j] 23)
          have HO1 := Lib.hid hO1
          have wu := u8_nat hlt
          have wi := i32_nat hjt
          clear hS1 hO1
          have hfl := iF_le (i := k) (j := j) (by omega)
          have hol := iO_le (i := k) (j := j) (by omega)
          cases hF : findI (k : Int) (j : Int) with
          | none =>
            have hN := HN.out k j hlt _ HS1.out.l HS1.out.b
            rw [hF] at hN
            unfold nameP at hN
            have HN1 := Lib.hid hN
            have e1 := iF_none hF
            have e2 := iO_none hF
            have e3 := inner_none hF
            have E1 := Lib.hid e1
            have E2 := Lib.hid e2
            have E3 := Lib.hid e3
            clear hN hF e1 e2 e3
            generalize strB ((none : Option IRow).getD irow0).name = NM at *
            simp only [Option.isSome_none] at HN1
            go_wp2_with (go_at_call 10; refine HN1.out.mono ?_; rintro e w1 ⟨rfl, hb1⟩)
            go_roundw
            case rel => exact ⟨j + 1, n, by omega, by go_num, by rw [E1.out], by rw [E2.out], by omega, Lib.hid (by rw [E3.out]; exact HO1.out.kept (row := none) (grown_of hb1) (by simp)), Lib.hid (HS1.out.call hb1)⟩
            case measure => simp [intOf]; omega
          | some r =>
            have hN := HN.out k j hlt _ HS1.out.l HS1.out.b
            have hE := fun w => HE.out k j hlt w
            rw [hF] at hN hE
            unfold nameP at hN
            unfold effectP at hE
            simp only [Option.getD_some, Option.isSome_some] at hN hE
            obtain ⟨hm, -⟩ := findI_some hF
            have hk := row_name_key (row_ok hm).2.2
            have hb3 : r.takes ≤ 3 ∧ r.leaves ≤ 3 ∧ r.leaves ≤ r.takes + 1 := by
              rcases List.mem_append.1 hm with h | h
              · have := tabF_ok r h; exact ⟨this.2.2.2.2.2.1, this.2.2.2.2.2.2.1, this.2.2.2.2.2.2.2⟩
              · have := tabO_ok r h; exact ⟨this.2.2.2.2.2.1, this.2.2.2.2.2.2.1, this.2.2.2.2.2.2.2⟩
            obtain ⟨g1, g2, g3⟩ := hb3
            have E3 := Lib.hid (inner_some hF)
            have HF := Lib.hid hF
            have HN1 := Lib.hid hN
            have HE1 := Lib.hid hE
            have HK := Lib.hid hk
            clear hN hE hk hm hF
            generalize strB r.name = NM at *
            generalize r.takes = dt at *
            generalize r.leaves = dl at *
            have t1 : ¬ (dt : Int) < 0 := by omega
            have t2 : ¬ 3 < (dt : Int) := by omega
            have t3 : ¬ (dl : Int) < 0 := by omega
            have t4 : ¬ 3 < (dl : Int) := by omega
            have t5 : ¬ (dt : Int) + 1 < (dl : Int) := by omega
            by_cases h15 : k = 15
            · have t15 : ((k : Int) == 15) = true := by rw [h15]; rfl
              have E1 : Hid (iF k (j + 1) = iF k j) := Lib.hid (by rw [h15]; exact iF_15 j)
              have E2 : Hid (iO k (j + 1) = iO k j + 1) := Lib.hid (by have h := HF.out; rw [h15] at h ⊢; exact iO_some h)
              clear h15
              go_wp2_with (first
                | (go_at_call 10; refine HN1.out.mono ?_; rintro e w1 ⟨rfl, hb1⟩; have HS2 := Lib.hid (HS1.out.call hb1); have HO2 := Lib.hid (HO1.out.kept (row := none) (grown_of hb1) (by simp)); have bx1 := bx.call hb1; have c10 := bx1.cell 0; have c11 := bx1.cell 1; simp at c10 c11; clear hb1)
                | (go_at_call 11; refine (HE1.out _ HS2.out.l HS2.out.b).mono ?_; rintro e w2 ⟨rfl, hb2⟩; have HS3 := Lib.hid (HS2.out.call hb2); have HO3 := Lib.hid (HO2.out.kept (row := none) (grown_of hb2) (by simp)); clear hb2)
                | (at_mapUpdate; refine wpList_mapUpdate_own _ rfl _ _ _ 44 rfl 9 4 lawS Tryd.underlying44 _ w.heap.size n _ rfl HO3.out (by unfold maxLen; omega) _ _ _ rfl rfl HK.out _ [] (plainElem_bool Tryd.underlying4 true) ?_; intro w3 hown hgr; have HS4 := Lib.hid (HS3.out.grown hgr hB (Nat.le_refl _)); have HO4 := Lib.hid hown; clear hown hgr))
              go_roundw
              case rel => exact ⟨j + 1, n + 1, by omega, by go_num, by rw [E1.out], by rw [E2.out]; go_num, by omega, Lib.hid (by rw [E3.out, ← List.append_assoc]; unfold Own; rw [Maps.setOf_snoc]; exact HO4.out), HS4⟩
              case measure => simp [intOf]; omega
            · have t15 : ((k : Int) == 15) = false := by simp; omega
              have E2 : Hid (iO k (j + 1) = iO k j) := Lib.hid (iO_ne h15)
              by_cases h0 : j = 0
              · have t0 : ((j : Int) == 0) = true := by rw [h0]; rfl
                have E1 : Hid (iF k (j + 1) = iF k j + 1) := Lib.hid (by have h := HF.out; rw [h0] at h ⊢; exact iF_one h15 h)
                clear h15 h0
                go_wp2_with (first
                  | (go_at_call 10; refine HN1.out.mono ?_; rintro e w1 ⟨rfl, hb1⟩; have HS2 := Lib.hid (HS1.out.call hb1); have HO2 := Lib.hid (HO1.out.kept (row := none) (grown_of hb1) (by simp)); have bx1 := bx.call hb1; have c10 := bx1.cell 0; have c11 := bx1.cell 1; simp at c10 c11; clear hb1)
                  | (go_at_call 11; refine (HE1.out _ HS2.out.l HS2.out.b).mono ?_; rintro e w2 ⟨rfl, hb2⟩; have HS3 := Lib.hid (HS2.out.call hb2); have HO3 := Lib.hid (HO2.out.kept (row := none) (grown_of hb2) (by simp)); clear hb2)
                  | (at_mapUpdate; refine wpList_mapUpdate_own _ rfl _ _ _ 44 rfl 9 4 lawS Tryd.underlying44 _ w.heap.size n _ rfl HO3.out (by unfold maxLen; omega) _ _ _ rfl rfl HK.out _ [] (plainElem_bool Tryd.underlying4 true) ?_; intro w3 hown hgr; have HS4 := Lib.hid (HS3.out.grown hgr hB (Nat.le_refl _)); have HO4 := Lib.hid hown; clear hown hgr))
                go_roundw
                case rel => exact ⟨j + 1, n + 1, by omega, by go_num, by rw [E1.out]; go_num, by rw [E2.out], by omega, Lib.hid (by rw [E3.out, ← List.append_assoc]; unfold Own; rw [Maps.setOf_snoc]; exact HO4.out), HS4⟩
                case measure => simp [intOf]; omega
              · have t0 : ((j : Int) == 0) = false := by simp; omega
                have E1 : Hid (iF k (j + 1) = iF k j) := Lib.hid (iF_succ (by omega))
                clear h15 h0
                go_wp2_with (first
                  | (go_at_call 10; refine HN1.out.mono ?_; rintro e w1 ⟨rfl, hb1⟩; have HS2 := Lib.hid (HS1.out.call hb1); have HO2 := Lib.hid (HO1.out.kept (row := none) (grown_of hb1) (by simp)); have bx1 := bx.call hb1; have c10 := bx1.cell 0; have c11 := bx1.cell 1; simp at c10 c11; clear hb1)
                  | (go_at_call 11; refine (HE1.out _ HS2.out.l HS2.out.b).mono ?_; rintro e w2 ⟨rfl, hb2⟩; have HS3 := Lib.hid (HS2.out.call hb2); have HO3 := Lib.hid (HO2.out.kept (row := none) (grown_of hb2) (by simp)); clear hb2)
                  | (at_mapUpdate; refine wpList_mapUpdate_own _ rfl _ _ _ 44 rfl 9 4 lawS Tryd.underlying44 _ w.heap.size n _ rfl HO3.out (by unfold maxLen; omega) _ _ _ rfl rfl HK.out _ [] (plainElem_bool Tryd.underlying4 true) ?_; intro w3 hown hgr; have HS4 := Lib.hid (HS3.out.grown hgr hB (Nat.le_refl _)); have HO4 := Lib.hid hown; clear hown hgr))
                go_roundw
                case rel => exact ⟨j + 1, n + 1, by omega, by go_num, by rw [E1.out], by rw [E2.out], by omega, Lib.hid (by rw [E3.out, ← List.append_assoc]; unfold Own; rw [Maps.setOf_snoc]; exact HO4.out), HS4⟩
                case measure => simp [intOf]; omega
        · have hjtI : ¬ (j : Int) < 256 := by omega
          obtain rfl : j = 256 := by omega
          go_wp2
          go_roundw
          case rel => exact ⟨k + 1, n, by omega, by go_num, by rw [iF_end], by rw [iO_end], by omega, HO, HS⟩
          case measure => simp [intOf]; omega
    · have hltI : ¬ (k : Int) < 256 := by omega
      obtain rfl : k = 256 := by omega
      have e2 : oB 256 = 74 := rfl
      have hlen := HO.out.len Tryd.underlying44 3
      rw [size_end] at hlen
      rw [cF_end, e2]
      clear e2
      go_wp2_with (go_at_call 15; refine (HA.out _ HS.out.l HS.out.b).mono ?_; rintro e w7 ⟨rfl, hb7⟩)
      go_ret
      exact ⟨rfl, (HS.out.call hb7).k⟩
end Go.Proofs.YtibflkphkjacnaaDoor
