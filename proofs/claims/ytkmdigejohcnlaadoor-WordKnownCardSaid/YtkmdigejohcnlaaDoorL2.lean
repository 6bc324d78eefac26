/- The laws WordSums, WordProducts, WordShifts, WordChecks and WordTexts, walked. -/
import Derived.Test.YtkmdigejohcnlaaDoorL1
namespace Go.Proofs.YtkmdigejohcnlaaDoor
open Go.RowKit
set_option linter.unusedVariables false
set_option linter.unusedSimpArgs false

theorem divF_form (a b : Int) : ∃ q o, divF a b = .tuple #[.int .i32 q, .bool o] := by
  unfold divF; split <;> exact ⟨_, _, rfl⟩
theorem remF_form (a b : Int) : ∃ q o, remF a b = .tuple #[.int .i32 q, .bool o] := by
  unfold remF; split <;> exact ⟨_, _, rfl⟩

theorem sums_true (B : Nat) (a b : Int) (w : World) (ha : is32 a) (hb : is32 b) (hL : Laid B w) (hB : B ≤ w.heap.size) : Calls Tryd.prog 11 #[.int .i32 a, .int .i32 b] w (RetV (.bool true) w) := by
  have hW := Lib.hid (works_yes B w hL hB)
  have h41 := fun w => wAdd a b w ha hb
  have h42 := fun w => rAdd a b w ha hb
  have h43 := fun w => wSub a b w ha hb
  have h44 := fun w => rSub a b w ha hb
  have h40 := fun w => wSum a b w
  have h39 := fun w => wDiff a b w
  have h38 := fun w => wAfter a b w
  have h45 := fun w => rAfter a b w ha hb
  simp only [addF, subF, rv] at h41 h42 h43 h44
  generalize (wrap32 (a + b) != a + b) = o1 at h41 h42
  generalize (wrap32 (a - b) != a - b) = o2 at h43 h44
  generalize decide (0 < wrap32 (a - b)) = o3 at h38 h45
  generalize wrap32 (a + b) = r1 at h41 h42 h40
  generalize wrap32 (a - b) = r2 at h43 h44 h39
  have H41 := Lib.hid h41
  have H42 := Lib.hid h42
  have H43 := Lib.hid h43
  have H44 := Lib.hid h44
  have H40 := Lib.hid h40
  have H39 := Lib.hid h39
  have H38 := Lib.hid h38
  have H45 := Lib.hid h45
  clear h41 h42 h43 h44 h40 h39 h38 h45 hL ha hb
  go_enter Tryd.func11, Tryd.ntmps11
  go_wp2_with (first
    | (go_at_call 41; refine (H41.out _).mono ?_; rintro e w1 ⟨rfl, rfl⟩)
    | (go_at_call 42; refine (H42.out _).mono ?_; rintro e w1 ⟨rfl, rfl⟩)
    | (go_at_call 43; refine (H43.out _).mono ?_; rintro e w1 ⟨rfl, rfl⟩)
    | (go_at_call 44; refine (H44.out _).mono ?_; rintro e w1 ⟨rfl, rfl⟩)
    | (go_at_call 40; refine (H40.out _).mono ?_; rintro e w1 ⟨rfl, rfl⟩)
    | (go_at_call 39; refine (H39.out _).mono ?_; rintro e w1 ⟨rfl, rfl⟩)
    | (go_at_call 38; refine (H38.out _).mono ?_; rintro e w1 ⟨rfl, rfl⟩)
    | (go_at_call 45; refine (H45.out _).mono ?_; rintro e w1 ⟨rfl, rfl⟩)
    | (go_at_call 17; refine hW.out.mono ?_; rintro e w2 ⟨rfl, hb2⟩))
  go_ret
  exact ⟨rfl, hb2⟩

theorem products_true (B : Nat) (a b : Int) (w : World) (ha : is32 a) (hb : is32 b) (hL : Laid B w) (hB : B ≤ w.heap.size) : Calls Tryd.prog 8 #[.int .i32 a, .int .i32 b] w (RetV (.bool true) w) := by
  have hW := Lib.hid (works_yes B w hL hB)
  have h27 := fun w => wMul a b w ha hb
  have h28 := fun w => rMul a b w ha hb
  have h22 := fun w => wDiv a b w ha hb
  have h29 := fun w => rDiv a b w ha hb
  have h23 := fun w => wRem a b w ha hb
  have h30 := fun w => rRem a b w ha hb
  have h31 := fun w => wProd a b w
  simp only [mulF, rv] at h27 h28
  obtain ⟨q, o, e1⟩ := divF_form a b
  obtain ⟨q', o', e2⟩ := remF_form a b
  rw [e1] at h22 h29
  rw [e2] at h23 h30
  generalize (wrap32 (a * b) != a * b) = o1 at h27 h28
  generalize wrap32 (a * b) = r1 at h27 h28 h31
  have H27 := Lib.hid h27
  have H28 := Lib.hid h28
  have H22 := Lib.hid h22
  have H29 := Lib.hid h29
  have H23 := Lib.hid h23
  have H30 := Lib.hid h30
  have H31 := Lib.hid h31
  clear h27 h28 h22 h29 h23 h30 h31 hL ha hb e1 e2
  go_enter Tryd.func8, Tryd.ntmps8
  go_wp2_with (first
    | (go_at_call 27; refine (H27.out _).mono ?_; rintro e w1 ⟨rfl, rfl⟩)
    | (go_at_call 28; refine (H28.out _).mono ?_; rintro e w1 ⟨rfl, rfl⟩)
    | (go_at_call 22; refine (H22.out _).mono ?_; rintro e w1 ⟨rfl, rfl⟩)
    | (go_at_call 29; refine (H29.out _).mono ?_; rintro e w1 ⟨rfl, rfl⟩)
    | (go_at_call 23; refine (H23.out _).mono ?_; rintro e w1 ⟨rfl, rfl⟩)
    | (go_at_call 30; refine (H30.out _).mono ?_; rintro e w1 ⟨rfl, rfl⟩)
    | (go_at_call 31; refine (H31.out _).mono ?_; rintro e w1 ⟨rfl, rfl⟩)
    | (go_at_call 17; refine hW.out.mono ?_; rintro e w2 ⟨rfl, hb2⟩))
  go_ret
  exact ⟨rfl, hb2⟩

/-- What holds of the world on the way through a law. -/
def St (B : Nat) (w0 w : World) : Prop := Laid B w ∧ B ≤ w.heap.size ∧ Below w0.heap.size w0 w
theorem St.start {B : Nat} {w : World} (h : Laid B w) (hB : B ≤ w.heap.size) : St B w w := ⟨h, hB, Below.refl _ _⟩
theorem St.l {B : Nat} {w0 w : World} (h : St B w0 w) : Laid B w := h.1
theorem St.b {B : Nat} {w0 w : World} (h : St B w0 w) : B ≤ w.heap.size := h.2.1
theorem St.call {B : Nat} {w0 w w1 : World} (h : St B w0 w) (hb : Below w.heap.size w w1) : St B w0 w1 :=
  ⟨h.1.call hb h.2.1, Nat.le_trans h.2.1 hb.size, h.2.2.trans (hb.mono h.2.2.size)⟩
theorem bits_is32 (a b : Int) : is32 (bits .and .i32 a b) := by
  unfold bits
  dsimp only
  rw [IntKind.wrap_i32]
  unfold is32; omega
theorem tmod_is32 {x : Int} (h : is32 x) (m : Int) : is32 (x.tmod m) := by
  obtain ⟨a, b⟩ := h
  have h1 := Int.natAbs_tmod x m
  have h2 := Nat.mod_le x.natAbs m.natAbs
  by_cases hx : 0 ≤ x
  · have h3 := Int.tmod_nonneg m hx
    unfold is32; omega
  · have h3 : x.tmod m ≤ 0 := by
      have h4 := Int.tmod_nonneg m (show 0 ≤ -x by omega)
      rw [Int.neg_tmod] at h4; omega
    unfold is32; omega
theorem run_index_array {P : Program} (t e : TypeId) (n : Nat) (cs : Array Value) (i : Int) (v : Value) (w : World) (ht : P.underlying t = some (.array n e)) (hs : (sizeOf e).run P w = .ok 1 w) (ha : (isAgg e).run P w = .ok false w)
    (h0 : 0 ≤ i) (hn : i < n) (hp : cs[i.toNat]? = some v) : (Instr.index t (.agg cs) (.int .i64 i)).run P w = .ok v w := by
  simp [Instr.index, run_underlying ht, asIntOf, h0, hn, hs, part, ha, hp, go_sem]
theorem arr22 (x y : Int) (w : World) : (Instr.index 22 (.agg #[.int .i32 x, .int .i32 y]) (.int .i64 0)).run Tryd.prog w = .ok (.int .i32 x) w ∧ (Instr.index 22 (.agg #[.int .i32 x, .int .i32 y]) (.int .i64 1)).run Tryd.prog w = .ok (.int .i32 y) w := by
  constructor
  · exact run_index_array 22 21 2 _ 0 _ w Tryd.underlying22 (by simp [Tryd.sizeOf21]) (by simp [Tryd.isAgg21]) (by decide) (by decide) rfl
  · exact run_index_array 22 21 2 _ 1 _ w Tryd.underlying22 (by simp [Tryd.sizeOf21]) (by simp [Tryd.isAgg21]) (by decide) (by decide) rfl
/-- One number of places. -/
theorem shifts_true (B : Nat) (a n : Int) (w : World) (ha : is32 a) (hn : is32 n) (hL : Laid B w) (hB : B ≤ w.heap.size) : Calls Tryd.prog 3 #[.int .i32 a, .int .i32 n] w (RetV (.bool true) w) := by
  have hW := Lib.hid (works_yes B w hL hB)
  have HP : ∀ (k : Int), is32 k → ∃ x y, (∀ w, Calls Tryd.prog 13 #[.int .i32 a, .int .i32 k] w (RetQ (.int .i32 x) w)) ∧ (∀ w, Calls Tryd.prog 14 #[.int .i32 a, .int .i32 k] w (RetQ (.int .i32 x) w)) ∧
      (∀ w, Calls Tryd.prog 15 #[.int .i32 a, .int .i32 k] w (RetQ (.int .i32 y) w)) ∧ (∀ w, Calls Tryd.prog 16 #[.int .i32 a, .int .i32 k] w (RetQ (.int .i32 y) w)) :=
    fun k hk => ⟨_, _, fun w => wShl a k w ha hk, fun w => rShl a k w ha hk, fun w => wShr a k w ha hk, fun w => rShr a k w ha hk⟩
  have hm : is32 ((bits .and .i32 n 63).tmod 40) := tmod_is32 (bits_is32 _ _) _
  have H1 := Lib.hid (HP n hn)
  have H2 := Lib.hid (HP _ hm)
  clear ha hL HP hm hn
  go_enter Tryd.func3, Tryd.ntmps3
  go_wp2_with (fail)
  generalize (bits .and .i32 n 63).tmod 40 = m at H2 ⊢
  obtain ⟨z0, z1⟩ := arr22 n m w
  go_loop [12] (fun i => ∃ k : Nat, k ≤ 2 ∧ i = .int .i64 k) (fun i => 2 - (intOf i).toNat)
  case atStart => exact ⟨0, by omega, rfl⟩
  case round =>
    obtain ⟨k, hk, rfl⟩ := hrel
    rcases (by omega : k = 0 ∨ k = 1 ∨ k = 2) with rfl | rfl | rfl
    · obtain ⟨x, y, h13, h14, h15, h16⟩ := H1.out
      have H13 := Lib.hid h13
      have H14 := Lib.hid h14
      have H15 := Lib.hid h15
      have H16 := Lib.hid h16
      clear h13 h14 h15 h16
      go_wp2_with (first
        | (go_at_call 13; refine (H13.out _).mono ?_; rintro e w1 ⟨rfl, rfl⟩)
        | (go_at_call 14; refine (H14.out _).mono ?_; rintro e w1 ⟨rfl, rfl⟩)
        | (go_at_call 15; refine (H15.out _).mono ?_; rintro e w1 ⟨rfl, rfl⟩)
        | (go_at_call 16; refine (H16.out _).mono ?_; rintro e w1 ⟨rfl, rfl⟩))
      go_round
      case rel => exact ⟨1, by omega, rfl⟩
      case measure => simp [intOf]
    · obtain ⟨x, y, h13, h14, h15, h16⟩ := H2.out
      have H13 := Lib.hid h13
      have H14 := Lib.hid h14
      have H15 := Lib.hid h15
      have H16 := Lib.hid h16
      clear h13 h14 h15 h16
      go_wp2_with (first
        | (go_at_call 13; refine (H13.out _).mono ?_; rintro e w1 ⟨rfl, rfl⟩)
        | (go_at_call 14; refine (H14.out _).mono ?_; rintro e w1 ⟨rfl, rfl⟩)
        | (go_at_call 15; refine (H15.out _).mono ?_; rintro e w1 ⟨rfl, rfl⟩)
        | (go_at_call 16; refine (H16.out _).mono ?_; rintro e w1 ⟨rfl, rfl⟩))
      go_round
      case rel => exact ⟨2, by omega, rfl⟩
      case measure => simp [intOf]
    · go_wp2_with (go_at_call 17; refine hW.out.mono ?_; rintro e w2 ⟨rfl, hb2⟩)
      go_ret
      exact ⟨rfl, hb2⟩
set_option maxRecDepth 100000 in
theorem checks_true (B : Nat) (v n k : Int) (w : World) (hv : is32 v) (hn : is32 n) (hk : 0 ≤ k ∧ k ≤ 255) (hL : Laid B w) (hB : B ≤ w.heap.size) : Calls Tryd.prog 9 #[.int .i32 v, .int .i32 n, .int .u8 k] w (RetV (.bool true) w) := by
  have hW := Lib.hid (works_yes B w hL hB)
  have HP : ∀ (s : Int), is32 s → ∃ a b c d e f g,
      (∀ w, Calls Tryd.prog 26 #[.int .i32 v, .int .i32 s] w (RetQ (.tuple #[.int .i32 a, .bool b]) w)) ∧ (∀ w, Calls Tryd.prog 32 #[.int .i32 v, .int .i32 s] w (RetQ (.tuple #[.int .i32 a, .bool b]) w)) ∧
      (∀ w, Calls Tryd.prog 33 #[.int .i32 v, .int .i32 s] w (RetQ (.tuple #[.int .i32 c, .bool d]) w)) ∧ (∀ w, Calls Tryd.prog 34 #[.int .i32 v, .int .i32 s] w (RetQ (.tuple #[.int .i32 c, .bool d]) w)) ∧
      (∀ w, Calls Tryd.prog 35 #[.int .i32 v, .int .i32 s] w (RetQ (.tuple #[.int .i32 e, .bool f]) w)) ∧ (∀ w, Calls Tryd.prog 36 #[.int .i32 v, .int .i32 s] w (RetQ (.tuple #[.int .i32 e, .bool f]) w)) ∧
      (∀ w, Calls Tryd.prog 25 #[.int .i32 v, .int .i32 s] w (RetQ (.int .i32 g) w)) ∧ (∀ w, Calls Tryd.prog 37 #[.int .i32 v, .int .i32 s] w (RetQ (.int .i32 g) w)) :=
    fun s hs => ⟨_, _, _, _, _, _, _, fun w => wCword v s w hv hs, fun w => rCword v s w hv hs, fun w => wCsub0 v s w hv hs, fun w => rCsub0 v s w hv hs, fun w => wCcnt1 v s w hv hs, fun w => rCcnt1 v s w hv hs, fun w => wXword v s w hv hs, fun w => rXword v s w hv hs⟩
  obtain ⟨k0, k1⟩ := hk
  have hk32 : is32 (k % 32) := by unfold is32; omega
  have hm : is32 (shlF 1 (k % 32)) := wrap32_is _
  have hS := Lib.hid (fun w => rShl 1 (k % 32) w (c32 _) hk32)
  have H1 := Lib.hid (HP n hn)
  have H2 := Lib.hid (HP _ hm)
  generalize shlF 1 (k % 32) = m at H2 hS
  clear hv hL HP hm hn hk32
  obtain ⟨z0, z1⟩ := arr22 n m w
  have k32 : Int.tmod k 32 = k % 32 := Int.tmod_eq_emod_of_nonneg k0
  go_enter Tryd.func9, Tryd.ntmps9
  go_wp2_with (go_at_call 14; refine (hS.out _).mono ?_; rintro e w1 ⟨rfl, rfl⟩)
  go_loop [27] (fun i => ∃ k : Nat, k ≤ 2 ∧ i = .int .i64 k) (fun i => 2 - (intOf i).toNat)
  case atStart => exact ⟨0, by omega, rfl⟩
  case round =>
    clear k32
    obtain ⟨k, hk, rfl⟩ := hrel
    rcases (by omega : k = 0 ∨ k = 1 ∨ k = 2) with rfl | rfl | rfl
    · obtain ⟨a, b, c, d, e, f, g, h1, h2, h3, h4, h5, h6, h7, h8⟩ := H1.out
      have H26 := Lib.hid h1
      have H32 := Lib.hid h2
      have H33 := Lib.hid h3
      have H34 := Lib.hid h4
      have H35 := Lib.hid h5
      have H36 := Lib.hid h6
      have H25 := Lib.hid h7
      have H37 := Lib.hid h8
      clear h1 h2 h3 h4 h5 h6 h7 h8
      go_wp2_with (first
        | (go_at_call 26; refine (H26.out _).mono ?_; rintro e w1 ⟨rfl, rfl⟩)
        | (go_at_call 32; refine (H32.out _).mono ?_; rintro e w1 ⟨rfl, rfl⟩)
        | (go_at_call 33; refine (H33.out _).mono ?_; rintro e w1 ⟨rfl, rfl⟩)
        | (go_at_call 34; refine (H34.out _).mono ?_; rintro e w1 ⟨rfl, rfl⟩)
        | (go_at_call 35; refine (H35.out _).mono ?_; rintro e w1 ⟨rfl, rfl⟩)
        | (go_at_call 36; refine (H36.out _).mono ?_; rintro e w1 ⟨rfl, rfl⟩)
        | (go_at_call 25; refine (H25.out _).mono ?_; rintro e w1 ⟨rfl, rfl⟩)
        | (go_at_call 37; refine (H37.out _).mono ?_; rintro e w1 ⟨rfl, rfl⟩))
      go_round
      case rel => exact ⟨1, by omega, rfl⟩
      case measure => simp [intOf]
    · obtain ⟨a, b, c, d, e, f, g, h1, h2, h3, h4, h5, h6, h7, h8⟩ := H2.out
      have H26 := Lib.hid h1
      have H32 := Lib.hid h2
      have H33 := Lib.hid h3
      have H34 := Lib.hid h4
      have H35 := Lib.hid h5
      have H36 := Lib.hid h6
      have H25 := Lib.hid h7
      have H37 := Lib.hid h8
      clear h1 h2 h3 h4 h5 h6 h7 h8
      go_wp2_with (first
        | (go_at_call 26; refine (H26.out _).mono ?_; rintro e w1 ⟨rfl, rfl⟩)
        | (go_at_call 32; refine (H32.out _).mono ?_; rintro e w1 ⟨rfl, rfl⟩)
        | (go_at_call 33; refine (H33.out _).mono ?_; rintro e w1 ⟨rfl, rfl⟩)
        | (go_at_call 34; refine (H34.out _).mono ?_; rintro e w1 ⟨rfl, rfl⟩)
        | (go_at_call 35; refine (H35.out _).mono ?_; rintro e w1 ⟨rfl, rfl⟩)
        | (go_at_call 36; refine (H36.out _).mono ?_; rintro e w1 ⟨rfl, rfl⟩)
        | (go_at_call 25; refine (H25.out _).mono ?_; rintro e w1 ⟨rfl, rfl⟩)
        | (go_at_call 37; refine (H37.out _).mono ?_; rintro e w1 ⟨rfl, rfl⟩))
      go_round
      case rel => exact ⟨2, by omega, rfl⟩
      case measure => simp [intOf]
    · go_wp2_with (go_at_call 17; refine hW.out.mono ?_; rintro e w2 ⟨rfl, hb2⟩)
      go_ret
      exact ⟨rfl, hb2⟩
theorem texts_true (B : Nat) (v : Int) (S : ByteArray) (w : World) (hv : is32 v) (hs : S.size ≤ 281474976710656) (hL : Laid B w) (hB : B ≤ w.heap.size) : Calls Tryd.prog 4 #[.int .i32 v, .string S] w (RetV (.bool true) w) := by
  have hS := Lib.hid (St.start hL hB)
  clear hL
  have hW := Lib.hid (fun w h1 h2 => works_yes B w h1 h2)
  have h18 := fun w h1 h2 => wRead B S w hs h1 h2
  have h19 := fun w => rRead S w
  obtain ⟨T, hT⟩ : ∃ T : Bool → ByteArray, T = fun h => strB (textL v h) := ⟨_, rfl⟩
  have h20 : ∀ h w, Laid B w → Calls Tryd.prog 20 #[.int .i32 v, .bool h] w (RetV (.string (T h)) w) := fun h w h1 => by rw [hT]; exact wText B v h w hv h1
  have h21 : ∀ h w, Calls Tryd.prog 21 #[.int .i32 v, .bool h] w (RetV (.string (T h)) w) := fun h w => by rw [hT]; exact rText v h w hv
  simp only [readV] at h18 h19
  generalize (readF S.data.toList).1 = x at h18 h19
  generalize (readF S.data.toList).2 = y at h18 h19
  have H18 := Lib.hid h18
  have H19 := Lib.hid h19
  have H20 := Lib.hid h20
  have H21 := Lib.hid h21
  clear h18 h19 h20 h21 hT hv hB
  go_enter Tryd.func4, Tryd.ntmps4
  go_wp2_with (first
    | (go_at_call 18; refine (H18.out _ hS.out.1 hS.out.2.1).mono ?_; rintro e w1 ⟨rfl, hb1⟩; replace hS := Lib.hid (hS.out.call hb1); clear hb1)
    | (go_at_call 19; refine (H19.out _).mono ?_; rintro e w1 ⟨rfl, hb1⟩; replace hS := Lib.hid (hS.out.call hb1); clear hb1)
    | (go_at_call 20; refine (H20.out _ _ hS.out.1).mono ?_; rintro e w1 ⟨rfl, hb1⟩; replace hS := Lib.hid (hS.out.call hb1); clear hb1)
    | (go_at_call 21; refine (H21.out _ _).mono ?_; rintro e w1 ⟨rfl, hb1⟩; replace hS := Lib.hid (hS.out.call hb1); clear hb1)
    | (go_at_call 17; refine (hW.out _ hS.out.1 hS.out.2.1).mono ?_; rintro e w1 ⟨rfl, hb1⟩; replace hS := Lib.hid (hS.out.call hb1); clear hb1))
  go_ret
  exact ⟨rfl, hS.out.2.2⟩
end Go.Proofs.YtkmdigejohcnlaaDoor
