/- Texts that belong together, joined: what each one holds is told ahead of it. -/
import Derived.Test.YtbefmlioampgcaaGreatDoorHA2
import Derived.Test.YtbefmlioampgcaaGreatDoorHA4
set_option linter.unusedVariables false
set_option linter.unusedSimpArgs false
/- find, May and valid under a weaker word on the variables. -/
namespace Go.Proofs.YtbefmlioampgcaaGreatDoor
open Go.RowKit Go.Maps Go.WideMaps Go.Shelf
attribute [local go_sem] Oper.semAt_some
set_option linter.unusedSimpArgs false
set_option linter.unusedVariables false

/-- The variables that the instructions' tables need. -/
def LaidW (B : Nat) (w : World) : Prop := Blanks B w ∧ ∀ w', Below B w w' → FnsAt w'
theorem LaidW.on {B : Nat} {w w1 : World} (h : LaidW B w) (hb : Below B w w1) : LaidW B w1 :=
  ⟨fun w' h' => h.1 w' (hb.trans h'), fun w' h' => h.2 w' (hb.trans h')⟩
theorem LaidW.call {B : Nat} {w w1 : World} (h : LaidW B w) (hb : Below w.heap.size w w1) (hB : B ≤ w.heap.size) : LaidW B w1 := h.on (hb.mono hB)
theorem LaidW.fns {B : Nat} {w : World} (h : LaidW B w) : FnsAt w := h.2 w (Below.refl _ _)
def S5w (B : Nat) (w0 w : World) : Prop := LaidW B w ∧ B ≤ w.heap.size ∧ Below w0.heap.size w0 w
theorem S5w.start {B : Nat} {w : World} (h : LaidW B w) (hB : B ≤ w.heap.size) : S5w B w w := ⟨h, hB, Below.refl _ _⟩
theorem S5w.l {B : Nat} {w0 w : World} (h : S5w B w0 w) : LaidW B w := h.1
theorem S5w.b {B : Nat} {w0 w : World} (h : S5w B w0 w) : B ≤ w.heap.size := h.2.1
theorem S5w.k {B : Nat} {w0 w : World} (h : S5w B w0 w) : Below w0.heap.size w0 w := h.2.2
theorem S5w.call {B : Nat} {w0 w w1 : World} (h : S5w B w0 w) (hb : Below w.heap.size w w1) : S5w B w0 w1 :=
  ⟨h.1.call hb h.2.1, Nat.le_trans h.2.1 hb.size, h.2.2.trans (hb.mono h.2.2.size)⟩
theorem S5w.alloc {B : Nat} {w0 w : World} (h : S5w B w0 w) (o : Obj) : S5w B w0 (w.alloc o) := h.call ((Below.refl _ _).alloc (Nat.le_refl _) _)
theorem S5w.grown {B : Nat} {w0 w w1 : World} {b : Nat} (h : S5w B w0 w) (hg : w.grownBy w1 (some b)) (hB : B ≤ w0.heap.size) (hb : w0.heap.size ≤ b) : S5w B w0 w1 := by
  have k1 : Below w0.heap.size w0 w1 := h.k.grown hg h.k.size (fun k e => by injection e; omega)
  have k2 : Below B w w1 := (Below.refl B w).grown hg h.b (fun k e => by injection e; omega)
  exact ⟨h.l.on k2, Nat.le_trans h.b hg.size, k1⟩
set_option maxRecDepth 100000 in
set_option maxHeartbeats 2000000 in
theorem pFindOW (arg : Int) (B : Nat) (w : World) (hL : LaidW B w) (hB : B ≤ w.heap.size) :
    Calls Tryz.prog 102 #[.agg #[.int .u8 15, .int .i32 arg]] w (RetV (rowP (findI 15 arg)) w) := by
  have hF : findI 15 arg = tabO.find? fun r => (r.arg : Int) == arg := by unfold findI; rw [if_pos rfl]
  have HF := Lib.hid hF
  have c0 : w.cell? ⟨1, 15, none⟩ = some (.string ⟨#[]⟩) := hL.fns.cell rfl
  have hg' : 1 < w.heap.size := hL.fns.lt
  have hgp : 0 < w.heap.size := Nat.lt_of_le_of_lt (Nat.zero_le _) hg'
  have HL := Lib.hid hL
  clear hF hL
  refine (callsIn_wide (n := 9)).1 ?_
  refine callsIn_of_wp_marks Tryz.func102 rfl trivial ?_ rfl
  refine wpIn_wide.2 ?_
  simp only [Tryz.ntmps102, List.size_toArray, List.length_cons, List.length_nil, Nat.reduceAdd, Nat.reduceSub, Array.replicate_succ, Array.replicate_zero, List.push_toArray, List.append_toArray, List.nil_append, List.cons_append]
  go_wp2
  go_step3
  go_wp2
  go_step3
  go_wp2_with (go_at_call 105; refine (irows _).mono ?_; rintro e w' ⟨rfl, rfl⟩)
  obtain ⟨W0, hW0⟩ : ∃ W0, ((w.alloc (Obj.cells #[.int .u8 15, .int .i32 arg] 123)).alloc (Obj.cells #[.int .i32 0, .string ⟨#[]⟩, .int .i64 0, .int .i64 0] 135)).alloc (Obj.cells #[.bool false] 4) = W0 := ⟨_, rfl⟩
  have b1 : Blk W0 w.heap.size 123 #[.int .u8 15, .int .i32 arg] := by rw [← hW0]; exact ((Blk.new w _ _).alloc _).alloc _
  have b2 : Blk W0 (w.heap.size + 1) 135 (rowC irow0) := by
    rw [← hW0]; have h := (Blk.new (w.alloc (Obj.cells #[.int .u8 15, .int .i32 arg] 123)) 135 (rowC irow0)).alloc (Obj.cells #[.bool false] 4); rwa [World.size_alloc] at h
  have b3 : Blk W0 (w.heap.size + 2) 4 #[.bool false] := by
    rw [← hW0]; have h := Blk.new ((w.alloc (Obj.cells #[.int .u8 15, .int .i32 arg] 123)).alloc (Obj.cells #[.int .i32 0, .string ⟨#[]⟩, .int .i64 0, .int .i64 0] 135)) 4 #[.bool false]; rwa [World.size_alloc, World.size_alloc] at h
  have kB : Below w.heap.size w W0 := by rw [← hW0]; exact (((Below.refl _ w).alloc (Nat.le_refl _) _).alloc (by simp) _).alloc (by simp <;> omega) _
  have hsz : W0.heap.size = w.heap.size + 3 := by rw [← hW0]; simp
  rw [hW0]
  clear hW0
  have hBl : Blanks B W0 := (HL.out.on (kB.mono hB)).1
  refine wpIn_wide.1 (wpIn_range_until (F := Fence.wide) (n := 9) rfl rfl (gf := 108) (lb := #[]) rfl trivial (enters_of Tryz.func108 (by kernel_rfl) rfl) (X := fun k => w.heap.size ≤ k ∧ k < w.heap.size + 3) (encs := fun r : IRow => #[rowV r])
    (seqUntil_rows 8 B W0 hBl (by omega) _ (by rintro k ⟨_, _⟩; omega)) (Below.refl _ _) (fun _ => rfl)
    (fun pre W => Blk W w.heap.size 123 #[.int .u8 15, .int .i32 arg] ∧ (∃ q, Blk W (w.heap.size + 1) 135 (rowC q)) ∧ Blk W (w.heap.size + 2) 4 #[.bool false] ∧ Below w.heap.size w W ∧ ∀ q ∈ pre, (q.arg : Int) ≠ arg)
    (fun c pre W => c = .exit 0 ∧ ∃ pre' q, pre = pre' ++ [q] ∧ (∀ q ∈ pre', (q.arg : Int) ≠ arg) ∧ (q.arg : Int) = arg ∧ Blk W (w.heap.size + 1) 135 (rowC q) ∧ Blk W (w.heap.size + 2) 4 #[.bool true] ∧ Below w.heap.size w W)
    ?deep ?deepx ⟨b1, ⟨_, b2⟩, b3, kB, by simp⟩ ?round ?done ?stop)
  case deep => exact fun s A B ⟨h1, ⟨q, h2⟩, h3, h4, h5⟩ k => ⟨h1.below k (by omega), ⟨q, h2.below k (by omega)⟩, h3.below k (by omega), h4.trans (k.mono (by omega)), h5⟩
  case deepx => exact fun c s A B ⟨h1, p, q, e1, e2, e3, h2, h3, h4⟩ k => ⟨h1, p, q, e1, e2, e3, h2.below k (by omega), h3.below k (by omega), h4.trans (k.mono (by omega))⟩
  case round =>
    clear b1 b2 b3 kB
    rintro l pre x r W ⟨b1, ⟨q, b2⟩, b3, kB, hno⟩ hxs hsW
    have hV : rowV x = .agg #[.int .i32 x.arg, .string (strB x.name), .int .i64 x.takes, .int .i64 x.leaves] := rfl
    rw [hV]
    have hC : rowC x = #[.int .i32 x.arg, .string (strB x.name), .int .i64 x.takes, .int .i64 x.leaves] := rfl
    have HC := Lib.hid hC
    clear hV hC
    generalize strB x.name = NM at *
    generalize x.takes = dt at *
    generalize x.leaves = dl at *
    generalize hxa : x.arg = xa at *
    have HXA := Lib.hid hxa
    have HXS := Lib.hid hxs
    clear hxa hxs
    have b2' : Blk W (w.heap.size + 1) 135 #[.int .i32 q.arg, .string (strB q.name), .int .i64 q.takes, .int .i64 q.leaves] := b2
    have e20 := b2'.cell 0
    have e21 := b2'.cell 1
    have e22 := b2'.cell 2
    have e23 := b2'.cell 3
    simp at e20 e21 e22 e23
    have f20 := b2.frozen 0
    have f21 := b2.frozen 1
    have f22 := b2.frozen 2
    have f23 := b2.frozen 3
    have l2 := b2.lt
    gi_wp2
    have b2n : Blk ((((W.setCell ⟨w.heap.size + 1, 0, none⟩ (.int .i32 xa)).setCell ⟨w.heap.size + 1, 1, none⟩ (.string NM)).setCell ⟨w.heap.size + 1, 2, none⟩ (.int .i64 dt)).setCell ⟨w.heap.size + 1, 3, none⟩ (.int .i64 dl)) (w.heap.size + 1) 135 #[.int .i32 xa, .string NM, .int .i64 dt, .int .i64 dl] := by
      have h := (((b2'.set_ 0 (.int .i32 xa)).set_ 1 (.string NM)).set_ 2 (.int .i64 dt)).set_ 3 (.int .i64 dl)
      simpa using h
    have b1n := (((b1.far (p := ⟨w.heap.size + 1, 0, none⟩) (by simp) (.int .i32 xa)).far (p := ⟨w.heap.size + 1, 1, none⟩) (by simp) (.string NM)).far (p := ⟨w.heap.size + 1, 2, none⟩) (by simp) (.int .i64 dt)).far (p := ⟨w.heap.size + 1, 3, none⟩) (by simp) (.int .i64 dl)
    have b3n := (((b3.far (p := ⟨w.heap.size + 1, 0, none⟩) (by simp) (.int .i32 xa)).far (p := ⟨w.heap.size + 1, 1, none⟩) (by simp) (.string NM)).far (p := ⟨w.heap.size + 1, 2, none⟩) (by simp) (.int .i64 dt)).far (p := ⟨w.heap.size + 1, 3, none⟩) (by simp) (.int .i64 dl)
    have kBn : Below w.heap.size w ((((W.setCell ⟨w.heap.size + 1, 0, none⟩ (.int .i32 xa)).setCell ⟨w.heap.size + 1, 1, none⟩ (.string NM)).setCell ⟨w.heap.size + 1, 2, none⟩ (.int .i64 dt)).setCell ⟨w.heap.size + 1, 3, none⟩ (.int .i64 dl)) := (((kB.setCell (by simp) _).setCell (by simp) _).setCell (by simp) _).setCell (by simp) _
    refine ⟨(((KeepC.set _ _ (by simp) _).trans (KeepC.set _ _ (by simp) _)).trans (KeepC.set _ _ (by simp) _)).trans (KeepC.set _ _ (by simp) _), (((KeepsOthers.setCell _ _ _).trans (KeepsOthers.setCell _ _ _)).trans (KeepsOthers.setCell _ _ _)).trans (KeepsOthers.setCell _ _ _), ?_⟩
    obtain ⟨Wn, hWn⟩ : ∃ Wn, ((((W.setCell ⟨w.heap.size + 1, 0, none⟩ (.int .i32 xa)).setCell ⟨w.heap.size + 1, 1, none⟩ (.string NM)).setCell ⟨w.heap.size + 1, 2, none⟩ (.int .i64 dt)).setCell ⟨w.heap.size + 1, 3, none⟩ (.int .i64 dl)) = Wn := ⟨_, rfl⟩
    have hszn : W.heap.size = Wn.heap.size := by rw [← hWn]; simp
    rw [hWn] at b1n b2n b3n kBn ⊢
    clear hWn b1 b2 b2' b3 kB e20 e21 e22 e23 f20 f21 f22 f23
    rintro W2 hgr ⟨hl0, hl1⟩
    have hne : ∀ k, k < w.heap.size + 3 → some k ≠ some l := fun k hk e => by injection e; omega
    have b1 := b1n.grown hgr (hne _ (by omega))
    have b2 := b2n.grown hgr (hne _ (by omega))
    have b3 := b3n.grown hgr (hne _ (by omega))
    have kB : Below w.heap.size w W2 := kBn.grown hgr (by omega) (fun k e => by injection e; omega)
    clear b1n b2n b3n kBn hgr
    have c10 := b1.cell 0
    have c11 := b1.cell 1
    simp at c10 c11
    have e20 := b2.cell 0
    have e21 := b2.cell 1
    have e22 := b2.cell 2
    have e23 := b2.cell 3
    simp at e20 e21 e22 e23
    have c3 := b3.cell 0
    have f3 := b3.frozen 0
    simp at c3
    cases hm : ((xa : Int) == arg)
    · have hne2 : (x.arg : Int) ≠ arg := by rw [HXA.out]; simpa using hm
      have HN := Lib.hid (fun q hq => hno q hq)
      have HE := Lib.hid hne2
      clear hno hne2
      gi_wp2
      refine ⟨KeepC.refl _ _, KeepsOthers.refl _, b1, ⟨x, by rw [HC.out]; exact b2⟩, b3, kB, ?_⟩
      intro q hq
      rcases List.mem_append.1 hq with h | h
      · exact HN.out q h
      · rw [List.mem_singleton.1 h]; exact HE.out
    · have hne2 : (x.arg : Int) = arg := by rw [HXA.out]; simpa using hm
      have HN := Lib.hid (fun q hq => hno q hq)
      have HE := Lib.hid hne2
      clear hno hne2
      gi_wp2
      refine ⟨KeepsOthers.setCell _ _ _, rfl, pre, x, rfl, HN.out, HE.out, ?_, ?_, kB.setCell (by simp <;> omega) _⟩
      · rw [HC.out]; exact b2.far (by simp) _
      · exact b3.set_ 0 (.bool true)
  case done =>
    clear b1 b2 b3 kB
    rintro D W ⟨b1, ⟨q, b2⟩, b3, kB, hno⟩ hK hD
    have hnone : findI 15 arg = none := by
      rw [HF.out, List.find?_eq_none]
      intro q hq
      simpa using hno q hq
    have HNO := Lib.hid hnone
    clear hnone hno
    have b2' : Blk W (w.heap.size + 1) 135 #[.int .i32 q.arg, .string (strB q.name), .int .i64 q.takes, .int .i64 q.leaves] := b2
    have e20 := b2'.cell 0
    have e21 := b2'.cell 1
    have e22 := b2'.cell 2
    have e23 := b2'.cell 3
    simp at e20 e21 e22 e23
    have f20 := b2.frozen 0
    have f21 := b2.frozen 1
    have f22 := b2.frozen 2
    have f23 := b2.frozen 3
    have c3 := b3.cell 0
    have f3 := b3.frozen 0
    simp at c3
    go_wp2
    have b2n : Blk (((((W.setCell ⟨w.heap.size + 1, 0, none⟩ (.int .i32 0)).setCell ⟨w.heap.size + 1, 1, none⟩ (.string ⟨#[]⟩)).setCell ⟨w.heap.size + 1, 2, none⟩ (.int .i64 0)).setCell ⟨w.heap.size + 1, 3, none⟩ (.int .i64 0)).setCell ⟨w.heap.size + 1 + 1, 0, none⟩ (.bool false)) (w.heap.size + 1) 135 #[.int .i32 0, .string ⟨#[]⟩, .int .i64 0, .int .i64 0] := by
      have h := ((((b2'.set_ 0 (.int .i32 0)).set_ 1 (.string ⟨#[]⟩)).set_ 2 (.int .i64 0)).set_ 3 (.int .i64 0)).far (p := ⟨w.heap.size + 1 + 1, 0, none⟩) (by simp) (.bool false)
      simpa using h
    have b3n : Blk (((((W.setCell ⟨w.heap.size + 1, 0, none⟩ (.int .i32 0)).setCell ⟨w.heap.size + 1, 1, none⟩ (.string ⟨#[]⟩)).setCell ⟨w.heap.size + 1, 2, none⟩ (.int .i64 0)).setCell ⟨w.heap.size + 1, 3, none⟩ (.int .i64 0)).setCell ⟨w.heap.size + 1 + 1, 0, none⟩ (.bool false)) (w.heap.size + 1 + 1) 4 #[.bool false] := by
      have h := ((((b3.far (p := ⟨w.heap.size + 1, 0, none⟩) (by simp) (.int .i32 0)).far (p := ⟨w.heap.size + 1, 1, none⟩) (by simp) (.string ⟨#[]⟩)).far (p := ⟨w.heap.size + 1, 2, none⟩) (by simp) (.int .i64 0)).far (p := ⟨w.heap.size + 1, 3, none⟩) (by simp) (.int .i64 0)).set_ 0 (.bool false)
      simpa using h
    have kBn : Below w.heap.size w (((((W.setCell ⟨w.heap.size + 1, 0, none⟩ (.int .i32 0)).setCell ⟨w.heap.size + 1, 1, none⟩ (.string ⟨#[]⟩)).setCell ⟨w.heap.size + 1, 2, none⟩ (.int .i64 0)).setCell ⟨w.heap.size + 1, 3, none⟩ (.int .i64 0)).setCell ⟨w.heap.size + 1 + 1, 0, none⟩ (.bool false)) := ((((kB.setCell (by simp) _).setCell (by simp) _).setCell (by simp) _).setCell (by simp) _).setCell (by simp <;> omega) _
    have hKn : (((((W.setCell ⟨w.heap.size + 1, 0, none⟩ (.int .i32 0)).setCell ⟨w.heap.size + 1, 1, none⟩ (.string ⟨#[]⟩)).setCell ⟨w.heap.size + 1, 2, none⟩ (.int .i64 0)).setCell ⟨w.heap.size + 1, 3, none⟩ (.int .i64 0)).setCell ⟨w.heap.size + 1 + 1, 0, none⟩ (.bool false)).heap[D]? = some (.deferred (some [])) := by
      have hn : ∀ (A : World) (p : Addr) (v : Value), p.block < W0.heap.size → A.heap[D]? = some (.deferred (some [])) → (A.setCell p v).heap[D]? = some (.deferred (some [])) := fun A p v hp h => (Below.heap_setCell A p v D (by omega)).trans h
      exact hn _ _ _ (by simp <;> omega) (hn _ _ _ (by simp <;> omega) (hn _ _ _ (by simp <;> omega) (hn _ _ _ (by simp <;> omega) (hn _ _ _ (by simp <;> omega) hK))))
    rw [Exit.noGoto_ret]
    generalize (((((W.setCell ⟨w.heap.size + 1, 0, none⟩ (.int .i32 0)).setCell ⟨w.heap.size + 1, 1, none⟩ (.string ⟨#[]⟩)).setCell ⟨w.heap.size + 1, 2, none⟩ (.int .i64 0)).setCell ⟨w.heap.size + 1, 3, none⟩ (.int .i64 0)).setCell ⟨w.heap.size + 1 + 1, 0, none⟩ (.bool false)) = Wf at *
    clear b2 b2' b3 kB e20 e21 e22 e23 f20 f21 f22 f23 c3 f3 hK c0
    refine ⟨by simp, .inl ⟨_, _, rfl, run_takeDeferred hKn, ?_⟩⟩
    have b2f : ∀ o, Blk (Wf.putObj D o) (w.heap.size + 1) 135 #[.int .i32 0, .string ⟨#[]⟩, .int .i64 0, .int .i64 0] := fun o => (World.putObj_heap_other (by omega)).trans b2n
    have b3f : ∀ o, Blk (Wf.putObj D o) (w.heap.size + 1 + 1) 4 #[.bool false] := fun o => (World.putObj_heap_other (by omega)).trans b3n
    have e0 := fun o => (b2f o).cell 0
    have e1 := fun o => (b2f o).cell 1
    have e2 := fun o => (b2f o).cell 2
    have e3 := fun o => (b2f o).cell 3
    have e4 := fun o => (b3f o).cell 0
    simp at e0 e1 e2 e3 e4
    refine ⟨.tuple #[.agg #[.int .i32 0, .string ⟨#[]⟩, .int .i64 0, .int .i64 0], .bool false], by simp [results, Tryz.results102, go_sem, e0, e1, e2, e3, e4], ?_⟩
    exact ⟨by rw [HNO.out]; rfl, kBn.putObj (by omega) _⟩
  case stop =>
    clear b1 b2 b3 kB
    rintro D c pre x r W hxs ⟨rfl, pre', q, hpq, hno, hyes, b2, b3, kB⟩ hK hD
    refine wpIn_wide.2 ?_
    have b2' : Blk W (w.heap.size + 1) 135 #[.int .i32 q.arg, .string (strB q.name), .int .i64 q.takes, .int .i64 q.leaves] := b2
    have e20 := b2'.cell 0
    have e21 := b2'.cell 1
    have e22 := b2'.cell 2
    have e23 := b2'.cell 3
    simp at e20 e21 e22 e23
    have f20 := b2.frozen 0
    have f21 := b2.frozen 1
    have f22 := b2.frozen 2
    have f23 := b2.frozen 3
    have c3 := b3.cell 0
    have f3 := b3.frozen 0
    simp at c3
    have HNO := Lib.hid hno
    have HYES := Lib.hid hyes
    have HPQ := Lib.hid hpq
    have HXS := Lib.hid hxs
    clear hno hyes hpq hxs
    go_wp2
    have hsome : findI 15 arg = some q := by
      obtain ⟨rfl, hx⟩ := List.append_inj' HPQ.out rfl
      obtain rfl : x = q := by simpa using hx
      rw [HF.out, HXS.out, List.find?_append]
      have h1 : pre.find? (fun r => (r.arg : Int) == arg) = none := by
        rw [List.find?_eq_none]; intro q hq; simpa using HNO.out q hq
      rw [h1, List.find?_cons]
      have h2 : ((x.arg : Int) == arg) = true := by simpa using HYES.out
      rw [h2]; rfl
    have HSO := Lib.hid hsome
    clear hsome
    have b2n : Blk (((((W.setCell ⟨w.heap.size + 1, 0, none⟩ (.int .i32 q.arg)).setCell ⟨w.heap.size + 1, 1, none⟩ (.string (strB q.name))).setCell ⟨w.heap.size + 1, 2, none⟩ (.int .i64 q.takes)).setCell ⟨w.heap.size + 1, 3, none⟩ (.int .i64 q.leaves)).setCell ⟨w.heap.size + 1 + 1, 0, none⟩ (.bool true)) (w.heap.size + 1) 135 #[.int .i32 q.arg, .string (strB q.name), .int .i64 q.takes, .int .i64 q.leaves] := by
      have h := ((((b2'.set_ 0 (.int .i32 q.arg)).set_ 1 (.string (strB q.name))).set_ 2 (.int .i64 q.takes)).set_ 3 (.int .i64 q.leaves)).far (p := ⟨w.heap.size + 1 + 1, 0, none⟩) (by simp) (.bool true)
      simpa using h
    have b3n : Blk (((((W.setCell ⟨w.heap.size + 1, 0, none⟩ (.int .i32 q.arg)).setCell ⟨w.heap.size + 1, 1, none⟩ (.string (strB q.name))).setCell ⟨w.heap.size + 1, 2, none⟩ (.int .i64 q.takes)).setCell ⟨w.heap.size + 1, 3, none⟩ (.int .i64 q.leaves)).setCell ⟨w.heap.size + 1 + 1, 0, none⟩ (.bool true)) (w.heap.size + 1 + 1) 4 #[.bool true] := by
      have h := ((((b3.far (p := ⟨w.heap.size + 1, 0, none⟩) (by simp) (.int .i32 q.arg)).far (p := ⟨w.heap.size + 1, 1, none⟩) (by simp) (.string (strB q.name))).far (p := ⟨w.heap.size + 1, 2, none⟩) (by simp) (.int .i64 q.takes)).far (p := ⟨w.heap.size + 1, 3, none⟩) (by simp) (.int .i64 q.leaves)).set_ 0 (.bool true)
      simpa using h
    have kBn : Below w.heap.size w (((((W.setCell ⟨w.heap.size + 1, 0, none⟩ (.int .i32 q.arg)).setCell ⟨w.heap.size + 1, 1, none⟩ (.string (strB q.name))).setCell ⟨w.heap.size + 1, 2, none⟩ (.int .i64 q.takes)).setCell ⟨w.heap.size + 1, 3, none⟩ (.int .i64 q.leaves)).setCell ⟨w.heap.size + 1 + 1, 0, none⟩ (.bool true)) := ((((kB.setCell (by simp) _).setCell (by simp) _).setCell (by simp) _).setCell (by simp) _).setCell (by simp <;> omega) _
    have hKn : (((((W.setCell ⟨w.heap.size + 1, 0, none⟩ (.int .i32 q.arg)).setCell ⟨w.heap.size + 1, 1, none⟩ (.string (strB q.name))).setCell ⟨w.heap.size + 1, 2, none⟩ (.int .i64 q.takes)).setCell ⟨w.heap.size + 1, 3, none⟩ (.int .i64 q.leaves)).setCell ⟨w.heap.size + 1 + 1, 0, none⟩ (.bool true)).heap[D]? = some (.deferred (some [])) := by
      have hn : ∀ (A : World) (p : Addr) (v : Value), p.block < W0.heap.size → A.heap[D]? = some (.deferred (some [])) → (A.setCell p v).heap[D]? = some (.deferred (some [])) := fun A p v hp h => (Below.heap_setCell A p v D (by omega)).trans h
      exact hn _ _ _ (by simp <;> omega) (hn _ _ _ (by simp <;> omega) (hn _ _ _ (by simp <;> omega) (hn _ _ _ (by simp <;> omega) (hn _ _ _ (by simp <;> omega) hK))))
    rw [Exit.noGoto_ret]
    generalize (((((W.setCell ⟨w.heap.size + 1, 0, none⟩ (.int .i32 q.arg)).setCell ⟨w.heap.size + 1, 1, none⟩ (.string (strB q.name))).setCell ⟨w.heap.size + 1, 2, none⟩ (.int .i64 q.takes)).setCell ⟨w.heap.size + 1, 3, none⟩ (.int .i64 q.leaves)).setCell ⟨w.heap.size + 1 + 1, 0, none⟩ (.bool true)) = Wf at *
    clear b2 b2' b3 kB e20 e21 e22 e23 f20 f21 f22 f23 c3 f3 hK c0
    refine ⟨by simp, .inl ⟨_, _, rfl, run_takeDeferred hKn, ?_⟩⟩
    have b2f : ∀ o, Blk (Wf.putObj D o) (w.heap.size + 1) 135 #[.int .i32 q.arg, .string (strB q.name), .int .i64 q.takes, .int .i64 q.leaves] := fun o => (World.putObj_heap_other (by omega)).trans b2n
    have b3f : ∀ o, Blk (Wf.putObj D o) (w.heap.size + 1 + 1) 4 #[.bool true] := fun o => (World.putObj_heap_other (by omega)).trans b3n
    have e0 := fun o => (b2f o).cell 0
    have e1 := fun o => (b2f o).cell 1
    have e2 := fun o => (b2f o).cell 2
    have e3 := fun o => (b2f o).cell 3
    have e4 := fun o => (b3f o).cell 0
    simp at e0 e1 e2 e3 e4
    refine ⟨.tuple #[.agg #[.int .i32 q.arg, .string (strB q.name), .int .i64 q.takes, .int .i64 q.leaves], .bool true], by simp [results, Tryz.results102, go_sem, e0, e1, e2, e3, e4], ?_⟩
    exact ⟨by rw [HSO.out]; rfl, kBn.putObj (by omega) _⟩
theorem pFindW (fn arg : Int) (hf : 0 ≤ fn ∧ fn ≤ 255) (B : Nat) (w : World) (hL : LaidW B w) (hB : B ≤ w.heap.size) :
    Calls Tryz.prog 102 #[.agg #[.int .u8 fn, .int .i32 arg]] w (RetV (rowP (findI fn arg)) w) := by
  obtain ⟨n, rfl⟩ := Int.eq_ofNat_of_zero_le hf.1
  by_cases h15 : n = 15
  · subst h15; exact pFindOW arg B w hL hB
  · cases h : findI (n : Int) arg with
    | none => rw [← h]; exact pFindN n arg (by omega) h15 h w hL.fns
    | some r =>
      obtain ⟨hm, hc⟩ := findI_some h
      rcases hc with ⟨e, _⟩ | ⟨_, e2, _⟩
      · omega
      · have hmF : r ∈ tabF := by
          rcases List.mem_append.1 hm with h1 | h1
          · exact h1
          · have := (tabO_ok r h1).1; omega
        rw [← h]; exact pFindF n arg r hmF (by omega) w hL.fns
section
variable (fn arg : Int) (hf : 0 ≤ fn ∧ fn ≤ 255) (B : Nat) (w : World) (hL : LaidW B w) (hB : B ≤ w.heap.size)
include hf hL hB
theorem pMayW : Calls Tryz.prog 92 #[.agg #[.int .u8 fn, .int .i32 arg]] w (RetV (.bool (findI fn arg).isSome) w) := by
  have hB0 : Below w.heap.size w (w.alloc (.cells #[.int .u8 fn, .int .i32 arg] 123)) := (Below.refl _ _).alloc (Nat.le_refl _) _
  have HFi := Lib.hid (pFindW fn arg hf B _ (hL.on (hB0.mono hB)) (Nat.le_trans hB hB0.size))
  unfold rowP rowV at HFi
  generalize (findI fn arg).isSome = ok at *
  generalize (findI fn arg).getD irow0 = r at *
  generalize strB r.name = NM at *
  clear hL
  go_enter Tryz.func92, Tryz.ntmps92
  go_wp2_with (go_at_call 102; refine HFi.out.mono ?_; rintro e w1 ⟨rfl, hb1⟩)
  go_ret
  exact ⟨rfl, (hB0.trans (hb1.mono (by simp <;> omega))).alloc (by have := hb1.size; simp at this; omega) _⟩
end
set_option maxRecDepth 100000 in
set_option maxHeartbeats 4000000 in
theorem pValidW (x : LineL) (hx : LOk x) (B : Nat) (w : World) (hL : LaidW B w) (hB : B ≤ w.heap.size) : Calls Tryz.prog 60 #[.agg (lineC x)] w (RetV (.bool (validB x)) w) := by
  have S := S5w.start hL hB
  have HL := Lib.hid (iLab x.label hx.label)
  have HT := Lib.hid (iLab x.target hx.target)
  have HF := Lib.hid (iLab x.frm hx.frm)
  have HM := Lib.hid (fun w h h2 => pMayW (x.fn : Int) x.arg ⟨by omega, by have := hx.fn; omega⟩ B w h h2)
  have el := strB_empty x.label
  have et := strB_empty x.target
  have ef := strB_empty x.frm
  have hv : validB x = ((x.label.isEmpty || labelB x.label) && (if x.target.isEmpty = true then x.frm.isEmpty && (findI (x.fn : Int) x.arg).isSome
     else labelB x.target && (x.frm.isEmpty || labelB x.frm) && x.arg == 0 && decide (x.fn < 15) && !(x.fn == 2) && !(x.fn == 6))) := rfl
  have HV := Lib.hid hv
  clear hv
  clear hL hB hx
  unfold lineC
  generalize hlab : strB x.label = SL at *
  generalize htar : strB x.target = ST at *
  generalize hfrm : strB x.frm = SF at *
  generalize labelB x.label = bl at *
  generalize labelB x.target = bt at *
  generalize labelB x.frm = bf at *
  generalize (findI (x.fn : Int) x.arg).isSome = bm at *
  generalize x.label.isEmpty = zl at *
  generalize x.target.isEmpty = zt at *
  generalize x.frm.isEmpty = zf at *
  generalize hr : validB x = res at *
  clear hlab htar hfrm hr
  generalize x.fn = fn at *
  generalize x.arg = arg at *
  go_enter Tryz.func60, Tryz.ntmps60
  go_upto_region 1 with (fail)
  have S0 := S.alloc (.cells #[.string SL, .int .u8 fn, .int .i32 arg, .string ST, .string SF] 62)
  have b0 := Blk.new w 62 #[.string SL, .int .u8 fn, .int .i32 arg, .string ST, .string SF]
  obtain ⟨W0, hW0⟩ : ∃ W0, w.alloc (.cells #[.string SL, .int .u8 fn, .int .i32 arg, .string ST, .string SF] 62) = W0 := ⟨_, rfl⟩
  rw [hW0] at S0 b0 ⊢
  clear hW0
  go_cut [11] (fun s11 wx => s11 = .bool (!(zl || bl)) ∧ S5w B w wx ∧ Blk wx w.heap.size 62 #[.string SL, .int .u8 fn, .int .i32 arg, .string ST, .string SF])
  case first =>
    have c00 := b0.cell 0
    have c01 := b0.cell 1
    have c02 := b0.cell 2
    have c03 := b0.cell 3
    have c04 := b0.cell 4
    simp at c00 c01 c02 c03 c04
    cases zl
    · go_wp2_with (go_at_call 91; refine (HL.out _).mono ?_; rintro e w1 ⟨rfl, hb1⟩)
      go_meet
      exact ⟨rfl, S0.call hb1, b0.call hb1⟩
    · go_wp2
      go_meet
      exact ⟨rfl, S0, b0⟩
  case rest =>
    obtain ⟨rfl, S1, b1⟩ := hcut
    clear HL b0 S0 el S
    have c10 := b1.cell 0
    have c11 := b1.cell 1
    have c12 := b1.cell 2
    have c13 := b1.cell 3
    have c14 := b1.cell 4
    simp at c10 c11 c12 c13 c14
    generalize hg : (zl || bl) = g at *
    cases g
    · go_wp2
      refine bodyPost_ret (v := .bool false) (by simp [results, Tryz.results60, go_sem]) rfl ⟨by rw [HV.out]; simp, S1.k⟩
    have HM1 := Lib.hid (HM.out _ S1.l S1.b)
    clear HM
    cases zt
    · cases bt
      · go_wp2_with (go_at_call 91; refine (HT.out _).mono ?_; rintro e w1 ⟨rfl, hb1⟩)
        refine bodyPost_ret (v := .bool false) (by simp [results, Tryz.results60, go_sem]) rfl ⟨by rw [HV.out]; simp, (S1.call hb1).k⟩
      have call2 : ∀ (b1 : Bool), zf = false → True := fun _ _ => trivial
      clear call2
      have fin : ∀ (res' : Bool) (W : World), S5w B w W → res = res' → RetV (.bool res) w (.returned (.bool res')) W := fun r' W h e => ⟨by rw [e], h.k⟩
      have FIN := Lib.hid fin
      clear fin
      have hfn : (fn : Int) < 15 ∨ ¬ (fn : Int) < 15 := Classical.em _
      have HJ : ((zf || bf) = false ∧ res = false) ∨ ((zf || bf) = true ∧ ((¬ arg = 0 ∧ res = false) ∨ (arg = 0 ∧ ((¬ (fn : Int) < 15 ∧ res = false) ∨ ((fn : Int) < 15 ∧ (((fn : Int) = 2 ∧ res = false) ∨ (((fn : Int) != 2) = true ∧ res = !((fn : Int) == 6)))))))) := by
        have h := HV.out
        simp only [Bool.true_and, Bool.false_eq_true, if_false] at h
        have h6 : ((fn : Int) == 6) = (fn == 6) := by rw [Bool.eq_iff_iff]; simp; omega
        rw [h6]
        cases hz : (zf || bf)
        · exact .inl ⟨rfl, by rw [h, hz]; simp⟩
        · refine .inr ⟨rfl, ?_⟩
          rw [hz] at h
          by_cases ha : arg = 0
          · refine .inr ⟨ha, ?_⟩
            by_cases hf : (fn : Int) < 15
            · refine .inr ⟨hf, ?_⟩
              have hf' : fn < 15 := by omega
              by_cases h2 : fn = 2
              · exact .inl ⟨by omega, by rw [h]; simp [h2]⟩
              · exact .inr ⟨by simp; omega, by rw [h]; simp [ha, hf', h2]⟩
            · exact .inl ⟨hf, by rw [h]; have : ¬ fn < 15 := by omega
                                 simp [this]⟩
          · exact .inl ⟨ha, by rw [h]; simp [ha]⟩
      clear hfn HV HM1
      have HJ' := Lib.hid HJ
      clear HJ
      cases zf <;> cases bf
      · obtain ⟨-, hr⟩ : _ ∧ res = false := by rcases HJ'.out with h | ⟨h, _⟩; exact h; exact absurd h (by simp)
        clear HJ'
        have HR := Lib.hid hr
        clear hr
        go_wp2_with (first
          | (go_at_call 91; (with_reducible refine (HT.out wc).mono ?_); rintro e w1 ⟨rfl, hb1⟩
             have S2 := S1.call hb1
             have b2 := b1.call hb1
             have d10 := b2.cell 0
             have d11 := b2.cell 1
             have d12 := b2.cell 2
             have d13 := b2.cell 3
             have d14 := b2.cell 4
             simp at d10 d11 d12 d13 d14
             )
          | (go_at_call 91; (with_reducible refine (HF.out w1).mono ?_); rintro e w2 ⟨rfl, hb2⟩
             have S3 := S2.call hb2
             have b3 := b2.call hb2
             have e10 := b3.cell 0
             have e11 := b3.cell 1
             have e12 := b3.cell 2
             have e13 := b3.cell 3
             have e14 := b3.cell 4
             simp at e10 e11 e12 e13 e14
             ))
        refine bodyPost_ret (v := .bool false) (by simp [results, Tryz.results60, go_sem]) rfl (FIN.out _ _ S3 HR.out)
      · obtain h | ⟨-, h⟩ := HJ'.out
        · exact absurd h.1 (by simp)
        clear HJ'
        rcases h with ⟨h0, hr⟩ | ⟨h0, ⟨h15, hr⟩ | ⟨h15, ⟨h2, hr⟩ | ⟨h2, hr⟩⟩⟩
        · have h0 : (arg == 0) = false := by simpa using h0
          have HR := Lib.hid hr
          clear hr
          go_wp2_with (first
            | (go_at_call 91; (with_reducible refine (HT.out wc).mono ?_); rintro e w1 ⟨rfl, hb1⟩
               have S2 := S1.call hb1
               have b2 := b1.call hb1
               have d10 := b2.cell 0
               have d11 := b2.cell 1
               have d12 := b2.cell 2
               have d13 := b2.cell 3
               have d14 := b2.cell 4
               simp at d10 d11 d12 d13 d14
               )
            | (go_at_call 91; (with_reducible refine (HF.out w1).mono ?_); rintro e w2 ⟨rfl, hb2⟩
               have S3 := S2.call hb2
               have b3 := b2.call hb2
               have e10 := b3.cell 0
               have e11 := b3.cell 1
               have e12 := b3.cell 2
               have e13 := b3.cell 3
               have e14 := b3.cell 4
               simp at e10 e11 e12 e13 e14
               ))
          refine bodyPost_ret (v := .bool false) (by simp [results, Tryz.results60, go_sem]) rfl (FIN.out _ _ S3 HR.out)
        · subst h0
          have HR := Lib.hid hr
          clear hr
          go_wp2_with (first
            | (go_at_call 91; (with_reducible refine (HT.out wc).mono ?_); rintro e w1 ⟨rfl, hb1⟩
               have S2 := S1.call hb1
               have b2 := b1.call hb1
               have d10 := b2.cell 0
               have d11 := b2.cell 1
               have d12 := b2.cell 2
               have d13 := b2.cell 3
               have d14 := b2.cell 4
               simp at d10 d11 d12 d13 d14
               )
            | (go_at_call 91; (with_reducible refine (HF.out w1).mono ?_); rintro e w2 ⟨rfl, hb2⟩
               have S3 := S2.call hb2
               have b3 := b2.call hb2
               have e10 := b3.cell 0
               have e11 := b3.cell 1
               have e12 := b3.cell 2
               have e13 := b3.cell 3
               have e14 := b3.cell 4
               simp at e10 e11 e12 e13 e14
               ))
          refine bodyPost_ret (v := .bool false) (by simp [results, Tryz.results60, go_sem]) rfl (FIN.out _ _ S3 HR.out)
        · subst h0
          have h2 : ((fn : Int) != 2) = false := by rw [h2]; rfl
          have HR := Lib.hid hr
          clear hr
          go_wp2_with (first
            | (go_at_call 91; (with_reducible refine (HT.out wc).mono ?_); rintro e w1 ⟨rfl, hb1⟩
               have S2 := S1.call hb1
               have b2 := b1.call hb1
               have d10 := b2.cell 0
               have d11 := b2.cell 1
               have d12 := b2.cell 2
               have d13 := b2.cell 3
               have d14 := b2.cell 4
               simp at d10 d11 d12 d13 d14
               )
            | (go_at_call 91; (with_reducible refine (HF.out w1).mono ?_); rintro e w2 ⟨rfl, hb2⟩
               have S3 := S2.call hb2
               have b3 := b2.call hb2
               have e10 := b3.cell 0
               have e11 := b3.cell 1
               have e12 := b3.cell 2
               have e13 := b3.cell 3
               have e14 := b3.cell 4
               simp at e10 e11 e12 e13 e14
               ))
          refine bodyPost_ret (v := .bool false) (by simp [results, Tryz.results60, go_sem]) rfl (FIN.out _ _ S3 HR.out)
        · subst h0
          have HR := Lib.hid hr
          clear hr
          go_wp2_with (first
            | (go_at_call 91; (with_reducible refine (HT.out wc).mono ?_); rintro e w1 ⟨rfl, hb1⟩
               have S2 := S1.call hb1
               have b2 := b1.call hb1
               have d10 := b2.cell 0
               have d11 := b2.cell 1
               have d12 := b2.cell 2
               have d13 := b2.cell 3
               have d14 := b2.cell 4
               simp at d10 d11 d12 d13 d14
               )
            | (go_at_call 91; (with_reducible refine (HF.out w1).mono ?_); rintro e w2 ⟨rfl, hb2⟩
               have S3 := S2.call hb2
               have b3 := b2.call hb2
               have e10 := b3.cell 0
               have e11 := b3.cell 1
               have e12 := b3.cell 2
               have e13 := b3.cell 3
               have e14 := b3.cell 4
               simp at e10 e11 e12 e13 e14
               ))
          refine bodyPost_ret (v := .bool (((fn : Int) != 6))) (by simp [results, Tryz.results60, go_sem]) rfl (FIN.out _ _ S3 HR.out)
      · obtain h | ⟨-, h⟩ := HJ'.out
        · exact absurd h.1 (by simp)
        clear HJ'
        rcases h with ⟨h0, hr⟩ | ⟨h0, ⟨h15, hr⟩ | ⟨h15, ⟨h2, hr⟩ | ⟨h2, hr⟩⟩⟩
        · have h0 : (arg == 0) = false := by simpa using h0
          have HR := Lib.hid hr
          clear hr
          go_wp2_with (first
            | (go_at_call 91; (with_reducible refine (HT.out wc).mono ?_); rintro e w1 ⟨rfl, hb1⟩
               have S2 := S1.call hb1
               have b2 := b1.call hb1
               have d10 := b2.cell 0
               have d11 := b2.cell 1
               have d12 := b2.cell 2
               have d13 := b2.cell 3
               have d14 := b2.cell 4
               simp at d10 d11 d12 d13 d14
               ))
          refine bodyPost_ret (v := .bool false) (by simp [results, Tryz.results60, go_sem]) rfl (FIN.out _ _ S2 HR.out)
        · subst h0
          have HR := Lib.hid hr
          clear hr
          go_wp2_with (first
            | (go_at_call 91; (with_reducible refine (HT.out wc).mono ?_); rintro e w1 ⟨rfl, hb1⟩
               have S2 := S1.call hb1
               have b2 := b1.call hb1
               have d10 := b2.cell 0
               have d11 := b2.cell 1
               have d12 := b2.cell 2
               have d13 := b2.cell 3
               have d14 := b2.cell 4
               simp at d10 d11 d12 d13 d14
               ))
          refine bodyPost_ret (v := .bool false) (by simp [results, Tryz.results60, go_sem]) rfl (FIN.out _ _ S2 HR.out)
        · subst h0
          have h2 : ((fn : Int) != 2) = false := by rw [h2]; rfl
          have HR := Lib.hid hr
          clear hr
          go_wp2_with (first
            | (go_at_call 91; (with_reducible refine (HT.out wc).mono ?_); rintro e w1 ⟨rfl, hb1⟩
               have S2 := S1.call hb1
               have b2 := b1.call hb1
               have d10 := b2.cell 0
               have d11 := b2.cell 1
               have d12 := b2.cell 2
               have d13 := b2.cell 3
               have d14 := b2.cell 4
               simp at d10 d11 d12 d13 d14
               ))
          refine bodyPost_ret (v := .bool false) (by simp [results, Tryz.results60, go_sem]) rfl (FIN.out _ _ S2 HR.out)
        · subst h0
          have HR := Lib.hid hr
          clear hr
          go_wp2_with (first
            | (go_at_call 91; (with_reducible refine (HT.out wc).mono ?_); rintro e w1 ⟨rfl, hb1⟩
               have S2 := S1.call hb1
               have b2 := b1.call hb1
               have d10 := b2.cell 0
               have d11 := b2.cell 1
               have d12 := b2.cell 2
               have d13 := b2.cell 3
               have d14 := b2.cell 4
               simp at d10 d11 d12 d13 d14
               ))
          refine bodyPost_ret (v := .bool (((fn : Int) != 6))) (by simp [results, Tryz.results60, go_sem]) rfl (FIN.out _ _ S2 HR.out)
      · obtain h | ⟨-, h⟩ := HJ'.out
        · exact absurd h.1 (by simp)
        clear HJ'
        rcases h with ⟨h0, hr⟩ | ⟨h0, ⟨h15, hr⟩ | ⟨h15, ⟨h2, hr⟩ | ⟨h2, hr⟩⟩⟩
        · have h0 : (arg == 0) = false := by simpa using h0
          have HR := Lib.hid hr
          clear hr
          go_wp2_with (first
            | (go_at_call 91; (with_reducible refine (HT.out wc).mono ?_); rintro e w1 ⟨rfl, hb1⟩
               have S2 := S1.call hb1
               have b2 := b1.call hb1
               have d10 := b2.cell 0
               have d11 := b2.cell 1
               have d12 := b2.cell 2
               have d13 := b2.cell 3
               have d14 := b2.cell 4
               simp at d10 d11 d12 d13 d14
               ))
          refine bodyPost_ret (v := .bool false) (by simp [results, Tryz.results60, go_sem]) rfl (FIN.out _ _ S2 HR.out)
        · subst h0
          have HR := Lib.hid hr
          clear hr
          go_wp2_with (first
            | (go_at_call 91; (with_reducible refine (HT.out wc).mono ?_); rintro e w1 ⟨rfl, hb1⟩
               have S2 := S1.call hb1
               have b2 := b1.call hb1
               have d10 := b2.cell 0
               have d11 := b2.cell 1
               have d12 := b2.cell 2
               have d13 := b2.cell 3
               have d14 := b2.cell 4
               simp at d10 d11 d12 d13 d14
               ))
          refine bodyPost_ret (v := .bool false) (by simp [results, Tryz.results60, go_sem]) rfl (FIN.out _ _ S2 HR.out)
        · subst h0
          have h2 : ((fn : Int) != 2) = false := by rw [h2]; rfl
          have HR := Lib.hid hr
          clear hr
          go_wp2_with (first
            | (go_at_call 91; (with_reducible refine (HT.out wc).mono ?_); rintro e w1 ⟨rfl, hb1⟩
               have S2 := S1.call hb1
               have b2 := b1.call hb1
               have d10 := b2.cell 0
               have d11 := b2.cell 1
               have d12 := b2.cell 2
               have d13 := b2.cell 3
               have d14 := b2.cell 4
               simp at d10 d11 d12 d13 d14
               ))
          refine bodyPost_ret (v := .bool false) (by simp [results, Tryz.results60, go_sem]) rfl (FIN.out _ _ S2 HR.out)
        · subst h0
          have HR := Lib.hid hr
          clear hr
          go_wp2_with (first
            | (go_at_call 91; (with_reducible refine (HT.out wc).mono ?_); rintro e w1 ⟨rfl, hb1⟩
               have S2 := S1.call hb1
               have b2 := b1.call hb1
               have d10 := b2.cell 0
               have d11 := b2.cell 1
               have d12 := b2.cell 2
               have d13 := b2.cell 3
               have d14 := b2.cell 4
               simp at d10 d11 d12 d13 d14
               ))
          refine bodyPost_ret (v := .bool (((fn : Int) != 6))) (by simp [results, Tryz.results60, go_sem]) rfl (FIN.out _ _ S2 HR.out)
    · cases zf
      · go_wp2
        refine bodyPost_ret (v := .bool false) (by simp [results, Tryz.results60, go_sem]) rfl ⟨by rw [HV.out]; simp, S1.k⟩
      · go_wp2_with (go_at_call 92; refine HM1.out.mono ?_; rintro e w1 ⟨rfl, hb1⟩)
        refine bodyPost_ret (v := .bool bm) (by simp [results, Tryz.results60, go_sem]) rfl ⟨by rw [HV.out]; simp, (S1.call hb1).k⟩
end Go.Proofs.YtbefmlioampgcaaGreatDoor

/- check under a weaker word on the variables. -/
namespace Go.Proofs.YtbefmlioampgcaaGreatDoor
open Go.RowKit Go.Maps Go.WideMaps Go.Shelf
attribute [local go_sem] Oper.semAt_some
set_option linter.unusedSimpArgs false
set_option linter.unusedVariables false

theorem S5w.own {B : Nat} {w0 w w1 : World} {b : Nat} (h : S5w B w0 w) (hg : w.grownBy w1 (some b)) (hB : B ≤ w0.heap.size) (hb : w0.heap.size ≤ b) : S5w B w0 w1 := by
  have k1 : Below w0.heap.size w0 w1 := h.k.grown hg h.k.size (fun k e => by injection e; omega)
  have k2 : Below B w w1 := (Below.refl B w).grown hg h.b (fun k e => by injection e; omega)
  exact ⟨h.l.on k2, Nat.le_trans h.b hg.size, k1⟩
set_option maxRecDepth 100000 in
set_option maxHeartbeats 4000000 in
theorem pCheckW (ls : List LineL) (hok : ∀ x ∈ ls, LOk x) (A : Option Addr) (n c : Nat) (hn : n ≤ 1000000) (B : Nat) (w : World) (hr : Reads w w.heap.size 5 A n (linesL ls)) (hL : LaidW B w) (hB : B ≤ w.heap.size) :
    Calls Tryz.prog 38 #[.slice A n c] w (RetC ls w) := by
  have S := Lib.hid (S5w.start hL hB)
  have HR := Lib.hid hr
  have HK := Lib.hid hok
  have HB := Lib.hid hB
  have HN := Lib.hid (lines_len hr)
  have hmm := @run_makeMap Tryz.prog
  clear hr hok hL hB
  go_enter Tryz.func38, Tryz.ntmps38
  go_wp2
  go_loopw [19] (fun i wr => ∃ k : Nat, k ≤ n ∧ i = .int .i64 k ∧ Hid (S5w B w wr) ∧ Hid ((ls.take k).all validB = true)) (fun i _ => n - (intOf i).toNat)
  case atStart => exact ⟨0, by omega, rfl, S, Lib.hid (by simp)⟩
  case round =>
    clear S
    obtain ⟨k, hk, rfl, S, HV⟩ := hrel
    by_cases hlt : k < n
    · have hltI : (k : Int) < n := by omega
      obtain ⟨b, off, x, rfl, hb, hx, c0, c1, c2, c3, c4⟩ := lines_at (HR.out.below S.out.k) hlt
      have hbs : b < wr.heap.size := by have := S.out.k.size; omega
      have b0 := Blk.new wr 62 (lineC x)
      have HS1 := Lib.hid (S.out.alloc (.cells (lineC x) 62))
      have HC := Lib.hid (pValidW x (HK.out x (List.mem_of_getElem? hx)) B _ HS1.out.l HS1.out.b)
      simp only [lineC] at b0 HS1 HC
      have HX := Lib.hid hx
      clear hx
      generalize hv : validB x = bv at *
      have HVX := Lib.hid hv
      clear hv
      cases bv
      · go_wp2_with (go_at_call 60; refine HC.out.mono ?_; rintro e w1 ⟨rfl, hb1⟩)
        have e2 := check_two HX.out HVX.out
        go_ret2
        exact ⟨(HS1.out.call hb1).k, .inr ⟨by rw [e2]; decide, by rw [e2]; rfl⟩⟩
      · go_wp2_with (go_at_call 60; refine HC.out.mono ?_; rintro e w1 ⟨rfl, hb1⟩)
        go_roundw
        case rel => exact ⟨k + 1, by omega, by go_num, Lib.hid (HS1.out.call hb1), Lib.hid (all_take_succ HX.out HV.out HVX.out)⟩
        case measure => simp [intOf]; omega
    · have hltI : ¬ (k : Int) < n := by omega
      obtain rfl : n = k := by omega
      have HA : Hid (ls.all validB = true) := Lib.hid (by have := HV.out; rwa [List.take_of_length_le (by rw [HN.out]; omega)] at this)
      clear HV
      obtain ⟨m, hm⟩ : ∃ m, wr.heap.size = m := ⟨_, rfl⟩
      have HM := Lib.hid (show w.heap.size ≤ m by rw [← hm]; exact S.out.k.size)
      have hO : OwnI (wr.alloc (.map #[] 0)) wr.heap.size 0 (mapL []) := World.ownsMap_made _ _ _ _
      have HO := Lib.hid hO
      have HS := Lib.hid (S.out.alloc (.map #[] 0))
      clear S hO
      rw [hm] at HO
      go_wp2
      go_loopw [30] (fun i wr => ∃ k q : Nat, k ≤ n ∧ i = .int .i64 k ∧ q ≤ k ∧ Hid (S5w B w wr) ∧ Hid (OwnI wr m q (mapL (ls.take k))) ∧ Hid (Dist (ls.take k))) (fun i _ => n - (intOf i).toNat)
      case atStart => exact ⟨0, 0, by omega, rfl, by omega, HS, Lib.hid (by simpa using HO.out), Lib.hid (by simpa using Dist.nil)⟩
      case round =>
        clear HS HO hm
        obtain ⟨k, q, hk, rfl, hq, S, HO, HD⟩ := hrel
        by_cases hlt : k < n
        · have hltI : (k : Int) < n := by omega
          obtain ⟨b, off, x, rfl, hb, hx, c0, c1, c2, c3, c4⟩ := lines_at (HR.out.below S.out.k) hlt
          have hbs : b < wr.heap.size := by have := S.out.k.size; omega
          have HS1 := Lib.hid (S.out.alloc (.cells (lineC x) 62))
          have HO1 := Lib.hid (HO.out.alloc (.cells (lineC x) 62))
          have HXO := Lib.hid (HK.out x (List.mem_of_getElem? hx))
          obtain ⟨cv, hrun⟩ := own_ok HO1.out HXO.out.label
          have hhas := mapL_has x.label (ls.take k)
          have hkey := str_key HXO.out.label
          have hpi : plainElem (H := Unit) Tryz.prog 3 (.int .i64 (k : Int)) = some (.lit (.int .i64 k), []) := plainElem_int Tryz.underlying3 (WalkArith.wf_i64 (by omega))
          simp only [lineC] at HS1 HO1 hrun
          have HX := Lib.hid hx
          have HKY := Lib.hid hkey
          have HPI := Lib.hid hpi
          clear hx hkey hpi S HO
          have el := strB_empty x.label
          by_cases hle : x.label = []
          · have hle2 : x.label.isEmpty = true := by rw [hle]; rfl
            rw [hle2] at el
            have hmap : mapL (ls.take (k + 1)) = mapL (ls.take k) := by rw [take_succ_of HX.out, mapL_snoc, if_pos hle2]
            have HMAP := Lib.hid hmap
            have HD2 := Lib.hid (show Dist (ls.take (k + 1)) by rw [take_succ_of HX.out]; exact HD.out.snoc (fun h => absurd hle h))
            clear hmap hle hle2 hhas
            generalize Maps.has (mapL (ls.take k)) (Lit.string x.label) = hs at *
            generalize strB x.label = SL at *
            go_wp2
            go_roundw
            case rel => exact ⟨k + 1, q, by omega, by go_num, by omega, HS1, Lib.hid (by rw [HMAP.out]; exact HO1.out), HD2⟩
            case measure => simp [intOf]; omega
          · have hle2 : x.label.isEmpty = false := by simpa using hle
            rw [hle2] at el
            rw [hle2] at hhas
            simp only [Bool.not_false, Bool.and_true] at hhas
            cases hat : (atL (ls.take k) x.label).isSome with
            | true =>
              have e60 := check_again HA.out HX.out hle hat
              have E60 := Lib.hid e60
              rw [hat] at hhas
              rw [hhas] at hrun
              clear e60 hat hle hle2 hhas
              generalize strB x.label = SL at *
              go_wp2
              go_ret2
              exact ⟨HS1.out.k, .inr ⟨by rw [E60.out]; decide, by rw [E60.out]; rfl⟩⟩
            | false =>
              rw [hat] at hhas
              rw [hhas] at hrun
              have hln : (ls.take k).length = k := by rw [List.length_take, HN.out]; omega
              have hmap : mapL (ls.take (k + 1)) = (mapL (ls.take k)).put (.string x.label) (.lit (.int .i64 k)) := by rw [take_succ_of HX.out, mapL_snoc, if_neg (by rw [hle2]; decide), hln]
              have HMAP := Lib.hid hmap
              have HD2 := Lib.hid (show Dist (ls.take (k + 1)) by rw [take_succ_of HX.out]; exact HD.out.snoc (fun _ => by simpa using hat))
              clear hmap hle hle2 hhas hat hln
              generalize strB x.label = SL at *
              go_wp2_with (at_mapUpdate; refine wpList_mapUpdate_own _ rfl _ _ _ 74 rfl 9 3 lawStr Tryz.underlying74 _ m q _ rfl HO1.out (by unfold maxLen; omega) _ _ _ rfl rfl HKY.out _ [] HPI.out ?_; intro w3 hown hgr; have HS4 := Lib.hid (HS1.out.own hgr HB.out HM.out); have HO4 := Lib.hid hown; clear hown hgr)
              go_roundw
              case rel => exact ⟨k + 1, q + 1, by omega, by go_num, by omega, HS4, Lib.hid (by rw [HMAP.out]; exact HO4.out), HD2⟩
              case measure => simp [intOf]; omega
        · have hltI : ¬ (k : Int) < n := by omega
          obtain rfl : n = k := by omega
          rw [List.take_of_length_le (by rw [HN.out]; omega)] at HO HD
          go_wp2
          go_loopw [53] (fun i wr => ∃ j : Nat, j ≤ n ∧ i = .int .i64 j ∧ Hid (S5w B w wr) ∧ Hid (OwnI wr m q (mapL ls)) ∧ Hid (∀ i x, i < j → ls[i]? = some x → okL ls i x = true)) (fun i _ => n - (intOf i).toNat)
          case atStart => exact ⟨0, by omega, rfl, S, HO, Lib.hid (by intro i x h; omega)⟩
          case round =>
            clear S HO
            obtain ⟨j, hj, rfl, S, HO, HP⟩ := hrel
            by_cases hjt : j < n
            · have hjtI : (j : Int) < n := by omega
              obtain ⟨b, off, x, rfl, hb, hx, c0, c1, c2, c3, c4⟩ := lines_at (HR.out.below S.out.k) hjt
              have hbs : b < wr.heap.size := by have := S.out.k.size; omega
              have HS1 := Lib.hid (S.out.alloc (.cells (lineC x) 62))
              have HO1 := Lib.hid (HO.out.alloc (.cells (lineC x) 62))
              have HXO := Lib.hid (HK.out x (List.mem_of_getElem? hx))
              obtain ⟨cv, hrun⟩ := own_ok HO1.out HXO.out.target
              obtain ⟨cv2, hrun2⟩ := own_ok HO1.out HXO.out.frm
              have h1 := mapL_has x.target ls
              have h2 := mapL_has x.frm ls
              have et := strB_empty x.target
              have ef := strB_empty x.frm
              have hokl : okL ls j x = ((x.target.isEmpty || Maps.has (mapL ls) (.string x.target)) && (x.frm.isEmpty || Maps.has (mapL ls) (.string x.frm))) := by
                have hlab : (x.label.isEmpty || atL ls x.label == some j) = true := by
                  by_cases hz : x.label = []
                  · simp [hz]
                  · simp [HD.out j x hx hz]
                rw [okL, hlab, h1, h2, Bool.true_and]
                cases x.target.isEmpty <;> cases x.frm.isEmpty <;> simp
              have HOK := Lib.hid hokl
              have HX := Lib.hid hx
              simp only [lineC] at HS1 HO1 hrun hrun2
              clear hx hokl h1 h2 S HO
              generalize Maps.has (mapL ls) (Lit.string x.target) = ht at *
              generalize Maps.has (mapL ls) (Lit.string x.frm) = hf at *
              generalize x.target.isEmpty = zt at *
              generalize x.frm.isEmpty = zf at *
              generalize strB x.target = ST at *
              generalize strB x.frm = SF at *
              have no : okL ls j x = false → checkE ls = 60 := fun h => check_sixty HA.out HX.out h
              have yes : okL ls j x = true → ∀ i y, i < j + 1 → ls[i]? = some y → okL ls i y = true := by
                intro h i y hi hy
                by_cases e : i = j
                · subst e; rw [HX.out] at hy; injection hy with hy; subst hy; exact h
                · exact HP.out i y (by omega) hy
              have NO := Lib.hid no
              have YES := Lib.hid yes
              clear no yes
              cases zt <;> cases zf <;> cases ht <;> cases hf
              all_goals
                go_wp2
                first
                  | (go_roundw
                     case rel => exact ⟨j + 1, by omega, by go_num, HS1, HO1, Lib.hid (YES.out (by rw [HOK.out]; rfl))⟩
                     case measure => simp [intOf]; omega)
                  | (go_ret2
                     have e60 := NO.out (by rw [HOK.out]; rfl)
                     exact ⟨HS1.out.k, .inr ⟨by rw [e60]; decide, by rw [e60]; rfl⟩⟩)
            · have hjtI : ¬ (j : Int) < n := by omega
              obtain rfl : n = j := by omega
              have e0 := check_zero HA.out (fun i x hx => HP.out i x (by have := (List.getElem?_eq_some_iff.1 hx).1; rw [HN.out] at this; exact this) hx)
              go_wp2
              go_ret2
              exact ⟨S.out.k, .inl ⟨e0, m, q, rfl, HO.out, HM.out, HD.out⟩⟩
end Go.Proofs.YtbefmlioampgcaaGreatDoor
