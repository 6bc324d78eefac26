
/- The reference's Read, walked. -/
import Derived.Test.YtibflkphkjacnaaDoorI7
namespace Go.Proofs.YtibflkphkjacnaaDoor
open Go.RowKit
set_option linter.unusedVariables false
set_option linter.unusedSimpArgs false

noncomputable def readIV (l : List UInt8) : Value := .tuple #[.agg #[.int .u8 (readI l).1, .int .i32 (readI l).2.1], .int .i64 (readI l).2.2]
theorem tw_at (c : UInt8) : ∀ (l : List UInt8) (k : Nat), k < (l.takeWhile (· != c)).length → ∃ d, l[k]? = some d ∧ d ≠ c
  | [], k, h => by simp at h
  | a :: l, k, h => by
    by_cases hac : a = c
    · simp [hac] at h
    · have e : (a :: l).takeWhile (· != c) = a :: l.takeWhile (· != c) := by simp [hac]
      rw [e] at h
      cases k with
      | zero => exact ⟨a, rfl, hac⟩
      | succ k => exact tw_at c l k (by simpa using h)
theorem tw_end (c : UInt8) : ∀ (l : List UInt8), (l.takeWhile (· != c)).length < l.length → l[(l.takeWhile (· != c)).length]? = some c
  | [], h => by simp at h
  | a :: l, h => by
    by_cases hac : a = c
    · simp [hac]
    · have e : (a :: l).takeWhile (· != c) = a :: l.takeWhile (· != c) := by simp [hac]
      rw [e] at h ⊢
      simp only [List.length_cons, List.getElem?_cons_succ]
      exact tw_end c l (by simpa using h)
theorem str_get {S : ByteArray} {k : Nat} {d : UInt8} (h : S.data.toList[k]? = some d) : ∃ hk : k < S.size, S[k] = d := by
  obtain ⟨h1, h2⟩ := List.getElem?_eq_some_iff.1 h
  exact ⟨by simpa using h1, by simpa [ByteArray.getElem_eq_getElem_data] using h2⟩
set_option maxRecDepth 100000 in
theorem rReadI (S : ByteArray) (w : World) (hs : S.size ≤ 9223372036854775806) : Calls Tryd.prog 19 #[.string S] w (RetV (readIV S.data.toList) w) := by
  obtain ⟨L, hL⟩ : ∃ L, (S.data.toList.takeWhile (· != 32)).length = L := ⟨_, rfl⟩
  have hle := tw_le 32 S.data.toList
  rw [hL, str_size] at hle
  have hat := tw_at 32 S.data.toList
  have hend := tw_end 32 S.data.toList
  rw [hL, str_size] at hend
  rw [hL] at hat
  have HN := Lib.hid (fun w => rNamed (S.extract 0 L) w)
  have eT : (S.extract 0 L).data.toList = S.data.toList.takeWhile (· != 32) := by
    rw [ext_take, ← hL]; exact take_tw 32 _
  rw [eT] at HN
  clear eT
  have Hat := Lib.hid hat
  have Hend := Lib.hid hend
  have HL := Lib.hid hL
  clear hat hend hL
  go_enter Tryd.func19, Tryd.ntmps19
  go_wp2
  obtain ⟨wb, hwb⟩ : ∃ wb, w.alloc (.cells #[.int .u8 0, .int .i32 0] 23) = wb := ⟨_, rfl⟩
  have hbs : wb.heap.size = w.heap.size + 1 := by rw [← hwb]; simp
  have hB0 : Below w.heap.size w wb := by rw [← hwb]; exact (Below.refl _ _).alloc (Nat.le_refl _) _
  have k0 : Blk wb w.heap.size 23 #[.int .u8 0, .int .i32 0] := by rw [← hwb]; exact Blk.new w _ _
  rw [hwb]
  clear hwb
  go_loop [4] (fun i => ∃ k : Nat, k ≤ L ∧ i = .int .i64 k) (fun i => L - (intOf i).toNat)
  case atStart => exact ⟨0, by omega, rfl⟩
  case round =>
    obtain ⟨k, hk, rfl⟩ := hrel
    by_cases hlt : k < L
    · obtain ⟨d, hd, hd32⟩ := Hat.out k hlt
      obtain ⟨hkS, hget⟩ := str_get hd
      have hkI : (k : Int) < S.size := by omega
      have hk0 : (0 : Int) ≤ k := by omega
      have hw1 : IntKind.i64.wrap ((k : Int) + 1) = (k : Int) + 1 := IntWalk.i64_in _ (by omega)
      have hdi : (((d.toNat : Nat) : Int) == 32) = false := by
        rw [beq_eq_false_iff_ne]
        intro h
        exact hd32 (UInt8.toNat.inj (by show d.toNat = 32; omega))
      clear hd hd32
      go_wp2
      go_round
      case rel => exact ⟨k + 1, by omega, by go_num⟩
      case measure => simp [intOf]; omega
    · obtain rfl : k = L := by omega
      clear hk hlt
      have c00 := k0.cell 0
      have c01 := k0.cell 1
      simp at c00 c01
      have f00 := k0.frozen 0
      have f01 := k0.frozen 1
      have l0 := k0.lt
      by_cases hLS : k < S.size
      · have hg := Hend.out hLS
        obtain ⟨_, hget⟩ := str_get hg
        have hkI : (k : Int) < S.size := by omega
        have hk0 : (0 : Int) ≤ k := by omega
        have hkN : ¬ (k : Int) = S.size := by omega
        have hk1 : (0 : Int) ≤ (k : Int) + 1 := by omega
        have hk2 : (k : Int) + 1 ≤ S.size := by omega
        have hw1 : IntKind.i64.wrap ((k : Int) + 1) = (k : Int) + 1 := IntWalk.i64_in _ (by omega)
        obtain ⟨o, ho⟩ : ∃ o, S.data.toList.dropWhile (· != 32) = 32 :: o ∧ S.data.toList.drop (k + 1) = o := by
          rw [← HL.out] at hg ⊢
          rw [drop_tw1]
          cases hd : S.data.toList.dropWhile (· != 32) with
          | nil => rw [← drop_tw] at hd; rw [List.drop_eq_nil_iff] at hd; rw [List.getElem?_eq_none hd] at hg; cases hg
          | cons a o =>
            refine ⟨o, ?_, rfl⟩
            have h0 : (S.data.toList.drop (S.data.toList.takeWhile (· != 32)).length)[0]? = some 32 := by rw [List.getElem?_drop]; simpa using hg
            rw [drop_tw, hd] at h0
            simp at h0
            rw [h0]
        have HR := Lib.hid (fun w => rRead (S.extract (k + 1) S.size) w)
        have eR : (S.extract (k + 1) S.size).data.toList = o := by rw [ext_drop]; exact ho.2
        rw [eR] at HR
        clear eR
        have Ho := Lib.hid ho.1
        clear hg Hat Hend ho
        cases hn : namedI (S.data.toList.takeWhile (· != 32)) with
        | none =>
          rw [hn] at HN
          have HE := Lib.hid (show readI S.data.toList = (0, 0, 50) by unfold readI; rw [hn])
          clear hn HR
          unfold instR at HN
          simp only [Option.getD_none, Option.isSome_none] at HN
          go_wp2_with (first
            | (go_at_call 17; refine (HN.out _).mono ?_; rintro e w1 ⟨rfl, hb1⟩; have k1 := k0.call hb1; have l1 := k1.lt; have c10 := k1.cell 0; have c11 := k1.cell 1; have f10 := k1.frozen 0; have f11 := k1.frozen 1; simp at c10 c11 f10 f11))
          refine bodyPost_ret (v := .tuple #[.agg #[.int .u8 0, .int .i32 0], .int .i64 50]) (by simp [results, Tryd.results19, go_sem, *]) rfl ⟨by rw [readIV, HE.out], ?_⟩
          have kE := (hB0.trans (hb1.mono (by omega)))
          first | exact (kE.setCell (by simp) _).setCell (by simp) _ | exact ((kE.alloc (by have := hb1.size; omega) _).setCell (by simp) _).setCell (by simp) _ | exact ((kE.setCell (by simp) _).setCell (by simp) _).alloc (by simp; omega) _
        | some r =>
          rw [hn] at HN
          obtain ⟨hm, -⟩ := named_some hn
          unfold instR at HN
          simp only [Option.getD_some, Option.isSome_some] at HN
          by_cases h15 : r.fn = 15
          · have h15I : ((r.fn : Int) == 15) = true := by simp [h15]
            have HE := Lib.hid (show readI S.data.toList = (0, 0, 5) by unfold readI; rw [hn, Ho.out]; simp [h15])
            clear hn hm HR h15
            go_wp2_with (first
              | (go_at_call 17; refine (HN.out _).mono ?_; rintro e w1 ⟨rfl, hb1⟩; have k1 := k0.call hb1; have l1 := k1.lt; have c10 := k1.cell 0; have c11 := k1.cell 1; have f10 := k1.frozen 0; have f11 := k1.frozen 1; simp at c10 c11 f10 f11))
            refine bodyPost_ret (v := .tuple #[.agg #[.int .u8 0, .int .i32 0], .int .i64 5]) (by simp [results, Tryd.results19, go_sem, *]) rfl ⟨by rw [readIV, HE.out], ?_⟩
            have kE := (hB0.trans (hb1.mono (by omega)))
            first | exact (kE.setCell (by simp) _).setCell (by simp) _ | exact ((kE.alloc (by have := hb1.size; omega) _).setCell (by simp) _).setCell (by simp) _ | exact ((kE.setCell (by simp) _).setCell (by simp) _).alloc (by simp; omega) _
          · have h15I : ((r.fn : Int) == 15) = false := by rw [beq_eq_false_iff_ne]; omega
            unfold readV at HR
            obtain ⟨⟨v, e⟩, hve⟩ : ∃ p, readF o = p := ⟨_, rfl⟩
            rw [hve] at HR
            simp only at HR
            by_cases he0 : e = 0
            · subst he0
              have HE := Lib.hid (show readI S.data.toList = ((r.fn : Int), v, 0) by unfold readI; rw [hn, Ho.out]; simp [h15, hve])
              clear hn hm h15 hve
              go_wp2_with (first
                | (go_at_call 17; refine (HN.out _).mono ?_; rintro e w1 ⟨rfl, hb1⟩; have k1 := k0.call hb1; have l1 := k1.lt; have c10 := k1.cell 0; have c11 := k1.cell 1; have f10 := k1.frozen 0; have f11 := k1.frozen 1; simp at c10 c11 f10 f11)
                | (go_at_call 30; refine (HR.out _).mono ?_; rintro e' w2 ⟨rfl, hb2⟩; have q2 := (Blk.new w1 23 #[.int .u8 r.fn, .int .i32 r.arg]).call hb2; have q20 := q2.cell 0; have q21 := q2.cell 1; simp at q20 q21; have k2 := (k1.alloc _).call hb2; have l2 := k2.lt; have c20 := k2.cell 0; have c21 := k2.cell 1; have f20 := k2.frozen 0; have f21 := k2.frozen 1; simp at c20 c21 f20 f21))
              refine bodyPost_ret (v := .tuple #[.agg #[.int .u8 (r.fn : Int), .int .i32 v], .int .i64 0]) (by simp [results, Tryd.results19, go_sem, *]) rfl ⟨by rw [readIV, HE.out], ?_⟩
              have kE := ((hB0.trans (hb1.mono (by omega))).alloc (by have := hb1.size; omega) (.cells #[.int .u8 r.fn, .int .i32 r.arg] 23)).trans (hb2.mono (by have := hb1.size; simp; omega))
              first | exact (kE.setCell (by simp) _).setCell (by simp) _ | exact ((kE.alloc (by have := hb1.size; omega) _).setCell (by simp) _).setCell (by simp) _ | exact ((kE.setCell (by simp) _).setCell (by simp) _).alloc (by simp; omega) _
            · have he0I : (e == 0) = false := by simpa using he0
              have HE := Lib.hid (show readI S.data.toList = (0, 0, 5) by unfold readI; rw [hn, Ho.out]; simp [h15, hve, he0])
              clear hn hm h15 hve he0
              go_wp2_with (first
                | (go_at_call 17; refine (HN.out _).mono ?_; rintro e w1 ⟨rfl, hb1⟩; have k1 := k0.call hb1; have l1 := k1.lt; have c10 := k1.cell 0; have c11 := k1.cell 1; have f10 := k1.frozen 0; have f11 := k1.frozen 1; simp at c10 c11 f10 f11)
                | (go_at_call 30; refine (HR.out _).mono ?_; rintro e' w2 ⟨rfl, hb2⟩; have q2 := (Blk.new w1 23 #[.int .u8 r.fn, .int .i32 r.arg]).call hb2; have q20 := q2.cell 0; have q21 := q2.cell 1; simp at q20 q21; have k2 := (k1.alloc _).call hb2; have l2 := k2.lt; have c20 := k2.cell 0; have c21 := k2.cell 1; have f20 := k2.frozen 0; have f21 := k2.frozen 1; simp at c20 c21 f20 f21))
              refine bodyPost_ret (v := .tuple #[.agg #[.int .u8 0, .int .i32 0], .int .i64 5]) (by simp [results, Tryd.results19, go_sem, *]) rfl ⟨by rw [readIV, HE.out], ?_⟩
              have kE := ((hB0.trans (hb1.mono (by omega))).alloc (by have := hb1.size; omega) (.cells #[.int .u8 r.fn, .int .i32 r.arg] 23)).trans (hb2.mono (by have := hb1.size; simp; omega))
              first | exact (kE.setCell (by simp) _).setCell (by simp) _ | exact ((kE.alloc (by have := hb1.size; omega) _).setCell (by simp) _).setCell (by simp) _ | exact ((kE.setCell (by simp) _).setCell (by simp) _).alloc (by simp; omega) _
      · obtain rfl : k = S.size := by omega
        have hkI : ¬ (S.size : Int) < S.size := by omega
        have eX : S.extract 0 S.size = S := by simp
        rw [eX] at HN
        have ho : S.data.toList.dropWhile (· != 32) = [] := by
          rw [← drop_tw, HL.out, List.drop_eq_nil_iff, str_size]; exact Nat.le_refl _
        have Ho := Lib.hid ho
        clear hLS Hat Hend eX ho hle
        cases hn : namedI (S.data.toList.takeWhile (· != 32)) with
        | none =>
          rw [hn] at HN
          have HE := Lib.hid (show readI S.data.toList = (0, 0, 50) by unfold readI; rw [hn])
          clear hn
          unfold instR at HN
          simp only [Option.getD_none, Option.isSome_none] at HN
          go_wp2_with (first
            | (go_at_call 17; refine (HN.out _).mono ?_; rintro e w1 ⟨rfl, hb1⟩; have k1 := k0.call hb1; have l1 := k1.lt; have c10 := k1.cell 0; have c11 := k1.cell 1; have f10 := k1.frozen 0; have f11 := k1.frozen 1; simp at c10 c11 f10 f11))
          refine bodyPost_ret (v := .tuple #[.agg #[.int .u8 0, .int .i32 0], .int .i64 50]) (by simp [results, Tryd.results19, go_sem, *]) rfl ⟨by rw [readIV, HE.out], ?_⟩
          have kE := (hB0.trans (hb1.mono (by omega)))
          first | exact (kE.setCell (by simp) _).setCell (by simp) _ | exact ((kE.alloc (by have := hb1.size; omega) _).setCell (by simp) _).setCell (by simp) _ | exact ((kE.setCell (by simp) _).setCell (by simp) _).alloc (by simp; omega) _
        | some r =>
          rw [hn] at HN
          unfold instR at HN
          simp only [Option.getD_some, Option.isSome_some] at HN
          by_cases h15 : r.fn = 15
          · have h15I : ((r.fn : Int) == 15) = true := by simp [h15]
            have HE := Lib.hid (show readI S.data.toList = ((r.fn : Int), (r.arg : Int), 0) by unfold readI; rw [hn, Ho.out]; simp [h15])
            clear hn h15
            go_wp2_with (first
              | (go_at_call 17; refine (HN.out _).mono ?_; rintro e w1 ⟨rfl, hb1⟩; have k1 := k0.call hb1; have l1 := k1.lt; have c10 := k1.cell 0; have c11 := k1.cell 1; have f10 := k1.frozen 0; have f11 := k1.frozen 1; simp at c10 c11 f10 f11))
            refine bodyPost_ret (v := .tuple #[.agg #[.int .u8 (r.fn : Int), .int .i32 (r.arg : Int)], .int .i64 0]) (by simp [results, Tryd.results19, go_sem, *]) rfl ⟨by rw [readIV, HE.out], ?_⟩
            have kE := (hB0.trans (hb1.mono (by omega)))
            first | exact (kE.setCell (by simp) _).setCell (by simp) _ | exact ((kE.alloc (by have := hb1.size; omega) _).setCell (by simp) _).setCell (by simp) _ | exact ((kE.setCell (by simp) _).setCell (by simp) _).alloc (by simp; omega) _
          · have h15I : ((r.fn : Int) == 15) = false := by rw [beq_eq_false_iff_ne]; omega
            have HE := Lib.hid (show readI S.data.toList = (0, 0, 5) by unfold readI; rw [hn, Ho.out]; simp [h15])
            clear hn h15
            go_wp2_with (first
              | (go_at_call 17; refine (HN.out _).mono ?_; rintro e w1 ⟨rfl, hb1⟩; have k1 := k0.call hb1; have l1 := k1.lt; have c10 := k1.cell 0; have c11 := k1.cell 1; have f10 := k1.frozen 0; have f11 := k1.frozen 1; simp at c10 c11 f10 f11))
            refine bodyPost_ret (v := .tuple #[.agg #[.int .u8 0, .int .i32 0], .int .i64 5]) (by simp [results, Tryd.results19, go_sem, *]) rfl ⟨by rw [readIV, HE.out], ?_⟩
            have kE := (hB0.trans (hb1.mono (by omega)))
            first | exact (kE.setCell (by simp) _).setCell (by simp) _ | exact ((kE.alloc (by have := hb1.size; omega) _).setCell (by simp) _).setCell (by simp) _ | exact ((kE.setCell (by simp) _).setCell (by simp) _).alloc (by simp; omega) _
end Go.Proofs.YtibflkphkjacnaaDoor
