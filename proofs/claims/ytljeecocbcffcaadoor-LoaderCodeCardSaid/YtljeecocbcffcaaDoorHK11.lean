/- Texts that belong together, joined: what each one holds is told ahead of it. -/
import Derived.Test.YtljeecocbcffcaaDoorHK5
import Derived.Test.YtljeecocbcffcaaDoorHK6
/- find, May and valid under a weaker word on the variables. -/
namespace Go.Proofs.YtljeecocbcffcaaDoor
open Go.RowKit Go.Maps Go.WideMaps Go.Shelf
attribute [local go_sem] Oper.semAt_some
set_option linter.unusedSimpArgs false
set_option linter.unusedVariables false

/-- The variables that the instructions' tables need. -/
def LaidW (B : Nat) (w : World) : Prop := Blanks B w ∧ ∀ w', Below B w w' → FnsAt w'
theorem LaidW.on {B : Nat} {w w1 : World} (h : LaidW B w) (hb : Below B w w1) : LaidW B w1 :=
  ⟨fun w' h' => h.1 w' (hb.trans h'), fun w' h' => h.2 w' (hb.trans h')⟩
theorem LaidW.call {B : Nat} {w w1 : World} (h : LaidW B w) (hb : Below w.heap.size w w1) (hB : B ≤ w.heap.size) : LaidW B w1 := h.on (hb.mono hB)
theorem LaidW.fns {B : Nat} {w : World} (h : LaidW B w) : FnsAt w := h.2 w (Below.refl _ _)
def S5w (B : Nat) (w0 w : World) : Prop := LaidW B w ∧ B ≤ w.heap.size ∧ Below w0.heap.size w0 w
theorem S5w.start {B : Nat} {w : World} (h : LaidW B w) (hB : B ≤ w.heap.size) : S5w B w w := ⟨h, hB, Below.refl _ _⟩
theorem S5w.l {B : Nat} {w0 w : World} (h : S5w B w0 w) : LaidW B w := h.1
theorem S5w.b {B : Nat} {w0 w : World} (h : S5w B w0 w) : B ≤ w.heap.size := h.2.1
theorem S5w.k {B : Nat} {w0 w : World} (h : S5w B w0 w) : Below w0.heap.size w0 w := h.2.2
theorem S5w.call {B : Nat} {w0 w w1 : World} (h : S5w B w0 w) (hb : Below w.heap.size w w1) : S5w B w0 w1 :=
  ⟨h.1.call hb h.2.1, Nat.le_trans h.2.1 hb.size, h.2.2.trans (hb.mono h.2.2.size)⟩
theorem S5w.alloc {B : Nat} {w0 w : World} (h : S5w B w0 w) (o : Obj) : S5w B w0 (w.alloc o) := h.call ((Below.refl _ _).alloc (Nat.le_refl _) _)
theorem S5w.grown {B : Nat} {w0 w w1 : World} {b : Nat} (h : S5w B w0 w) (hg : w.grownBy w1 (some b)) (hB : B ≤ w0.heap.size) (hb : w0.heap.size ≤ b) : S5w B w0 w1 := by
  have k1 : Below w0.heap.size w0 w1 := h.k.grown hg h.k.size (fun k e => by injection e; omega)
  have k2 : Below B w w1 := (Below.refl B w).grown hg h.b (fun k e => by injection e; omega)
  exact ⟨h.l.on k2, Nat.le_trans h.b hg.size, k1⟩
set_option maxRecDepth 100000 in
set_option maxHeartbeats 2000000 in
theorem pFindOW (arg : Int) (B : Nat) (w : World) (hL : LaidW B w) (hB : B ≤ w.heap.size) :
    Calls Tryd.prog 87 #[.agg #[.int .u8 15, .int .i32 arg]] w (RetV (rowP (findI 15 arg)) w) := by
  have hF : findI 15 arg = tabO.find? fun r => (r.arg : Int) == arg := by unfold findI; rw [if_pos rfl]
  have HF := Lib.hid hF
  have c0 : w.cell? ⟨0, 15, none⟩ = some (.string ⟨#[]⟩) := hL.fns.cell rfl
  have hg' : 0 < w.heap.size := hL.fns.lt
  have HL := Lib.hid hL
  clear hF hL
  refine (callsIn_wide (n := 9)).1 ?_
  refine callsIn_of_wp_marks Tryd.func87 rfl trivial ?_ rfl
  refine wpIn_wide.2 ?_
  simp only [Tryd.ntmps87, List.size_toArray, List.length_cons, List.length_nil, Nat.reduceAdd, Nat.reduceSub, Array.replicate_succ, Array.replicate_zero, List.push_toArray, List.append_toArray, List.nil_append, List.cons_append]
  go_wp2
  go_step3
  go_wp2
  go_step3
  go_wp2_with (go_at_call 84; refine (irows _).mono ?_; rintro e w' ⟨rfl, rfl⟩)
  obtain ⟨W0, hW0⟩ : ∃ W0, ((w.alloc (Obj.cells #[.int .u8 15, .int .i32 arg] 59)).alloc (Obj.cells #[.int .i32 0, .string ⟨#[]⟩, .int .i64 0, .int .i64 0] 132)).alloc (Obj.cells #[.bool false] 4) = W0 := ⟨_, rfl⟩
  have b1 : Blk W0 w.heap.size 59 #[.int .u8 15, .int .i32 arg] := by rw [← hW0]; exact ((Blk.new w _ _).alloc _).alloc _
  have b2 : Blk W0 (w.heap.size + 1) 132 (rowC irow0) := by
    rw [← hW0]; have h := (Blk.new (w.alloc (Obj.cells #[.int .u8 15, .int .i32 arg] 59)) 132 (rowC irow0)).alloc (Obj.cells #[.bool false] 4); rwa [World.size_alloc] at h
  have b3 : Blk W0 (w.heap.size + 2) 4 #[.bool false] := by
    rw [← hW0]; have h := Blk.new ((w.alloc (Obj.cells #[.int .u8 15, .int .i32 arg] 59)).alloc (Obj.cells #[.int .i32 0, .string ⟨#[]⟩, .int .i64 0, .int .i64 0] 132)) 4 #[.bool false]; rwa [World.size_alloc, World.size_alloc] at h
  have kB : Below w.heap.size w W0 := by rw [← hW0]; exact (((Below.refl _ w).alloc (Nat.le_refl _) _).alloc (by simp) _).alloc (by simp <;> omega) _
  have hsz : W0.heap.size = w.heap.size + 3 := by rw [← hW0]; simp
  rw [hW0]
  clear hW0
  have hBl : Blanks B W0 := (HL.out.on (kB.mono hB)).1
  refine wpIn_wide.1 (wpIn_range_until (F := Fence.wide) (n := 9) rfl rfl (gf := 94) (lb := #[]) rfl trivial (enters_of Tryd.func94 (by kernel_rfl) rfl) (X := fun k => w.heap.size ≤ k ∧ k < w.heap.size + 3) (encs := fun r : IRow => #[rowV r])
    (seqUntil_rows 8 B W0 hBl (by omega) _ (by rintro k ⟨_, _⟩; omega)) (Below.refl _ _) (fun _ => rfl)
    (fun pre W => Blk W w.heap.size 59 #[.int .u8 15, .int .i32 arg] ∧ (∃ q, Blk W (w.heap.size + 1) 132 (rowC q)) ∧ Blk W (w.heap.size + 2) 4 #[.bool false] ∧ Below w.heap.size w W ∧ ∀ q ∈ pre, (q.arg : Int) ≠ arg)
    (fun c pre W => c = .exit 0 ∧ ∃ pre' q, pre = pre' ++ [q] ∧ (∀ q ∈ pre', (q.arg : Int) ≠ arg) ∧ (q.arg : Int) = arg ∧ Blk W (w.heap.size + 1) 132 (rowC q) ∧ Blk W (w.heap.size + 2) 4 #[.bool true] ∧ Below w.heap.size w W)
    ?deep ?deepx ⟨b1, ⟨_, b2⟩, b3, kB, by simp⟩ ?round ?done ?stop)
  case deep => exact fun s A B ⟨h1, ⟨q, h2⟩, h3, h4, h5⟩ k => ⟨h1.below k (by omega), ⟨q, h2.below k (by omega)⟩, h3.below k (by omega), h4.trans (k.mono (by omega)), h5⟩
  case deepx => exact fun c s A B ⟨h1, p, q, e1, e2, e3, h2, h3, h4⟩ k => ⟨h1, p, q, e1, e2, e3, h2.below k (by omega), h3.below k (by omega), h4.trans (k.mono (by omega))⟩
  case round =>
    clear b1 b2 b3 kB
    rintro l pre x r W ⟨b1, ⟨q, b2⟩, b3, kB, hno⟩ hxs hsW
    have hV : rowV x = .agg #[.int .i32 x.arg, .string (strB x.name), .int .i64 x.takes, .int .i64 x.leaves] := rfl
    rw [hV]
    have hC : rowC x = #[.int .i32 x.arg, .string (strB x.name), .int .i64 x.takes, .int .i64 x.leaves] := rfl
    have HC := Lib.hid hC
    clear hV hC
    generalize strB x.name = NM at *
    generalize x.takes = dt at *
    generalize x.leaves = dl at *
    generalize hxa : x.arg = xa at *
    have HXA := Lib.hid hxa
    have HXS := Lib.hid hxs
    clear hxa hxs
    have b2' : Blk W (w.heap.size + 1) 132 #[.int .i32 q.arg, .string (strB q.name), .int .i64 q.takes, .int .i64 q.leaves] := b2
    have e20 := b2'.cell 0
    have e21 := b2'.cell 1
    have e22 := b2'.cell 2
    have e23 := b2'.cell 3
    simp at e20 e21 e22 e23
    have f20 := b2.frozen 0
    have f21 := b2.frozen 1
    have f22 := b2.frozen 2
    have f23 := b2.frozen 3
    have l2 := b2.lt
    gi_wp2
    have b2n : Blk ((((W.setCell ⟨w.heap.size + 1, 0, none⟩ (.int .i32 xa)).setCell ⟨w.heap.size + 1, 1, none⟩ (.string NM)).setCell ⟨w.heap.size + 1, 2, none⟩ (.int .i64 dt)).setCell ⟨w.heap.size + 1, 3, none⟩ (.int .i64 dl)) (w.heap.size + 1) 132 #[.int .i32 xa, .string NM, .int .i64 dt, .int .i64 dl] := by
      have h := (((b2'.set_ 0 (.int .i32 xa)).set_ 1 (.string NM)).set_ 2 (.int .i64 dt)).set_ 3 (.int .i64 dl)
      simpa using h
    have b1n := (((b1.far (p := ⟨w.heap.size + 1, 0, none⟩) (by simp) (.int .i32 xa)).far (p := ⟨w.heap.size + 1, 1, none⟩) (by simp) (.string NM)).far (p := ⟨w.heap.size + 1, 2, none⟩) (by simp) (.int .i64 dt)).far (p := ⟨w.heap.size + 1, 3, none⟩) (by simp) (.int .i64 dl)
    have b3n := (((b3.far (p := ⟨w.heap.size + 1, 0, none⟩) (by simp) (.int .i32 xa)).far (p := ⟨w.heap.size + 1, 1, none⟩) (by simp) (.string NM)).far (p := ⟨w.heap.size + 1, 2, none⟩) (by simp) (.int .i64 dt)).far (p := ⟨w.heap.size + 1, 3, none⟩) (by simp) (.int .i64 dl)
    have kBn : Below w.heap.size w ((((W.setCell ⟨w.heap.size + 1, 0, none⟩ (.int .i32 xa)).setCell ⟨w.heap.size + 1, 1, none⟩ (.string NM)).setCell ⟨w.heap.size + 1, 2, none⟩ (.int .i64 dt)).setCell ⟨w.heap.size + 1, 3, none⟩ (.int .i64 dl)) := (((kB.setCell (by simp) _).setCell (by simp) _).setCell (by simp) _).setCell (by simp) _
    refine ⟨(((KeepC.set _ _ (by simp) _).trans (KeepC.set _ _ (by simp) _)).trans (KeepC.set _ _ (by simp) _)).trans (KeepC.set _ _ (by simp) _), (((KeepsOthers.setCell _ _ _).trans (KeepsOthers.setCell _ _ _)).trans (KeepsOthers.setCell _ _ _)).trans (KeepsOthers.setCell _ _ _), ?_⟩
    obtain ⟨Wn, hWn⟩ : ∃ Wn, ((((W.setCell ⟨w.heap.size + 1, 0, none⟩ (.int .i32 xa)).setCell ⟨w.heap.size + 1, 1, none⟩ (.string NM)).setCell ⟨w.heap.size + 1, 2, none⟩ (.int .i64 dt)).setCell ⟨w.heap.size + 1, 3, none⟩ (.int .i64 dl)) = Wn := ⟨_, rfl⟩
    have hszn : W.heap.size = Wn.heap.size := by rw [← hWn]; simp
    rw [hWn] at b1n b2n b3n kBn ⊢
    clear hWn b1 b2 b2' b3 kB e20 e21 e22 e23 f20 f21 f22 f23
    rintro W2 hgr ⟨hl0, hl1⟩
    have hne : ∀ k, k < w.heap.size + 3 → some k ≠ some l := fun k hk e => by injection e; omega
    have b1 := b1n.grown hgr (hne _ (by omega))
    have b2 := b2n.grown hgr (hne _ (by omega))
    have b3 := b3n.grown hgr (hne _ (by omega))
    have kB : Below w.heap.size w W2 := kBn.grown hgr (by omega) (fun k e => by injection e; omega)
    clear b1n b2n b3n kBn hgr
    have c10 := b1.cell 0
    have c11 := b1.cell 1
    simp at c10 c11
    have e20 := b2.cell 0
    have e21 := b2.cell 1
    have e22 := b2.cell 2
    have e23 := b2.cell 3
    simp at e20 e21 e22 e23
    have c3 := b3.cell 0
    have f3 := b3.frozen 0
    simp at c3
    cases hm : ((xa : Int) == arg)
    · have hne2 : (x.arg : Int) ≠ arg := by rw [HXA.out]; simpa using hm
      have HN := Lib.hid (fun q hq => hno q hq)
      have HE := Lib.hid hne2
      clear hno hne2
      gi_wp2
      refine ⟨KeepC.refl _ _, KeepsOthers.refl _, b1, ⟨x, by rw [HC.out]; exact b2⟩, b3, kB, ?_⟩
      intro q hq
      rcases List.mem_append.1 hq with h | h
      · exact HN.out q h
      · rw [List.mem_singleton.1 h]; exact HE.out
    · have hne2 : (x.arg : Int) = arg := by rw [HXA.out]; simpa using hm
      have HN := Lib.hid (fun q hq => hno q hq)
      have HE := Lib.hid hne2
      clear hno hne2
      gi_wp2
      refine ⟨KeepsOthers.setCell _ _ _, rfl, pre, x, rfl, HN.out, HE.out, ?_, ?_, kB.setCell (by simp <;> omega) _⟩
      · rw [HC.out]; exact b2.far (by simp) _
      · exact b3.set_ 0 (.bool true)
  case done =>
    clear b1 b2 b3 kB
    rintro D W ⟨b1, ⟨q, b2⟩, b3, kB, hno⟩ hK hD
    have hnone : findI 15 arg = none := by
      rw [HF.out, List.find?_eq_none]
      intro q hq
      simpa using hno q hq
    have HNO := Lib.hid hnone
    clear hnone hno
    have b2' : Blk W (w.heap.size + 1) 132 #[.int .i32 q.arg, .string (strB q.name), .int .i64 q.takes, .int .i64 q.leaves] := b2
    have e20 := b2'.cell 0
    have e21 := b2'.cell 1
    have e22 := b2'.cell 2
    have e23 := b2'.cell 3
    simp at e20 e21 e22 e23
    have f20 := b2.frozen 0
    have f21 := b2.frozen 1
    have f22 := b2.frozen 2
    have f23 := b2.frozen 3
    have c3 := b3.cell 0
    have f3 := b3.frozen 0
    simp at c3
    go_wp2
    have b2n : Blk (((((W.setCell ⟨w.heap.size + 1, 0, none⟩ (.int .i32 0)).setCell ⟨w.heap.size + 1, 1, none⟩ (.string ⟨#[]⟩)).setCell ⟨w.heap.size + 1, 2, none⟩ (.int .i64 0)).setCell ⟨w.heap.size + 1, 3, none⟩ (.int .i64 0)).setCell ⟨w.heap.size + 1 + 1, 0, none⟩ (.bool false)) (w.heap.size + 1) 132 #[.int .i32 0, .string ⟨#[]⟩, .int .i64 0, .int .i64 0] := by
      have h := ((((b2'.set_ 0 (.int .i32 0)).set_ 1 (.string ⟨#[]⟩)).set_ 2 (.int .i64 0)).set_ 3 (.int .i64 0)).far (p := ⟨w.heap.size + 1 + 1, 0, none⟩) (by simp) (.bool false)
      simpa using h
    have b3n : Blk (((((W.setCell ⟨w.heap.size + 1, 0, none⟩ (.int .i32 0)).setCell ⟨w.heap.size + 1, 1, none⟩ (.string ⟨#[]⟩)).setCell ⟨w.heap.size + 1, 2, none⟩ (.int .i64 0)).setCell ⟨w.heap.size + 1, 3, none⟩ (.int .i64 0)).setCell ⟨w.heap.size + 1 + 1, 0, none⟩ (.bool false)) (w.heap.size + 1 + 1) 4 #[.bool false] := by
      have h := ((((b3.far (p := ⟨w.heap.size + 1, 0, none⟩) (by simp) (.int .i32 0)).far (p := ⟨w.heap.size + 1, 1, none⟩) (by simp) (.string ⟨#[]⟩)).far (p := ⟨w.heap.size + 1, 2, none⟩) (by simp) (.int .i64 0)).far (p := ⟨w.heap.size + 1, 3, none⟩) (by simp) (.int .i64 0)).set_ 0 (.bool false)
      simpa using h
    have kBn : Below w.heap.size w (((((W.setCell ⟨w.heap.size + 1, 0, none⟩ (.int .i32 0)).setCell ⟨w.heap.size + 1, 1, none⟩ (.string ⟨#[]⟩)).setCell ⟨w.heap.size + 1, 2, none⟩ (.int .i64 0)).setCell ⟨w.heap.size + 1, 3, none⟩ (.int .i64 0)).setCell ⟨w.heap.size + 1 + 1, 0, none⟩ (.bool false)) := ((((kB.setCell (by simp) _).setCell (by simp) _).setCell (by simp) _).setCell (by simp) _).setCell (by simp <;> omega) _
    have hKn : (((((W.setCell ⟨w.heap.size + 1, 0, none⟩ (.int .i32 0)).setCell ⟨w.heap.size + 1, 1, none⟩ (.string ⟨#[]⟩)).setCell ⟨w.heap.size + 1, 2, none⟩ (.int .i64 0)).setCell ⟨w.heap.size + 1, 3, none⟩ (.int .i64 0)).setCell ⟨w.heap.size + 1 + 1, 0, none⟩ (.bool false)).heap[D]? = some (.deferred (some [])) := by
      have hn : ∀ (A : World) (p : Addr) (v : Value), p.block < W0.heap.size → A.heap[D]? = some (.deferred (some [])) → (A.setCell p v).heap[D]? = some (.deferred (some [])) := fun A p v hp h => (Below.heap_setCell A p v D (by omega)).trans h
      exact hn _ _ _ (by simp <;> omega) (hn _ _ _ (by simp <;> omega) (hn _ _ _ (by simp <;> omega) (hn _ _ _ (by simp <;> omega) (hn _ _ _ (by simp <;> omega) hK))))
    rw [Exit.noGoto_ret]
    generalize (((((W.setCell ⟨w.heap.size + 1, 0, none⟩ (.int .i32 0)).setCell ⟨w.heap.size + 1, 1, none⟩ (.string ⟨#[]⟩)).setCell ⟨w.heap.size + 1, 2, none⟩ (.int .i64 0)).setCell ⟨w.heap.size + 1, 3, none⟩ (.int .i64 0)).setCell ⟨w.heap.size + 1 + 1, 0, none⟩ (.bool false)) = Wf at *
    clear b2 b2' b3 kB e20 e21 e22 e23 f20 f21 f22 f23 c3 f3 hK c0
    refine ⟨by simp, .inl ⟨_, _, rfl, run_takeDeferred hKn, ?_⟩⟩
    have b2f : ∀ o, Blk (Wf.putObj D o) (w.heap.size + 1) 132 #[.int .i32 0, .string ⟨#[]⟩, .int .i64 0, .int .i64 0] := fun o => (World.putObj_heap_other (by omega)).trans b2n
    have b3f : ∀ o, Blk (Wf.putObj D o) (w.heap.size + 1 + 1) 4 #[.bool false] := fun o => (World.putObj_heap_other (by omega)).trans b3n
    have e0 := fun o => (b2f o).cell 0
    have e1 := fun o => (b2f o).cell 1
    have e2 := fun o => (b2f o).cell 2
    have e3 := fun o => (b2f o).cell 3
    have e4 := fun o => (b3f o).cell 0
    simp at e0 e1 e2 e3 e4
    refine ⟨.tuple #[.agg #[.int .i32 0, .string ⟨#[]⟩, .int .i64 0, .int .i64 0], .bool false], by simp [results, Tryd.results87, go_sem, e0, e1, e2, e3, e4], ?_⟩
    exact ⟨by rw [HNO.out]; rfl, kBn.putObj (by omega) _⟩
  case stop =>
    clear b1 b2 b3 kB
    rintro D c pre x r W hxs ⟨rfl, pre', q, hpq, hno, hyes, b2, b3, kB⟩ hK hD
    refine wpIn_wide.2 ?_
    have b2' : Blk W (w.heap.size + 1) 132 #[.int .i32 q.arg, .string (strB q.name), .int .i64 q.takes, .int .i64 q.leaves] := b2
    have e20 := b2'.cell 0
    have e21 := b2'.cell 1
    have e22 := b2'.cell 2
    have e23 := b2'.cell 3
    simp at e20 e21 e22 e23
    have f20 := b2.frozen 0
    have f21 := b2.frozen 1
    have f22 := b2.frozen 2
    have f23 := b2.frozen 3
    have c3 := b3.cell 0
    have f3 := b3.frozen 0
    simp at c3
    have HNO := Lib.hid hno
    have HYES := Lib.hid hyes
    have HPQ := Lib.hid hpq
    have HXS := Lib.hid hxs
    clear hno hyes hpq hxs
    go_wp2
    have hsome : findI 15 arg = some q := by
      obtain ⟨rfl, hx⟩ := List.append_inj' HPQ.out rfl
      obtain rfl : x = q := by simpa using hx
      rw [HF.out, HXS.out, List.find?_append]
      have h1 : pre.find? (fun r => (r.arg : Int) == arg) = none := by
        rw [List.find?_eq_none]; intro q hq; simpa using HNO.out q hq
      rw [h1, List.find?_cons]
      have h2 : ((x.arg : Int) == arg) = true := by simpa using HYES.out
      rw [h2]; rfl
    have HSO := Lib.hid hsome
    clear hsome
    have b2n : Blk (((((W.setCell ⟨w.heap.size + 1, 0, none⟩ (.int .i32 q.arg)).setCell ⟨w.heap.size + 1, 1, none⟩ (.string (strB q.name))).setCell ⟨w.heap.size + 1, 2, none⟩ (.int .i64 q.takes)).setCell ⟨w.heap.size + 1, 3, none⟩ (.int .i64 q.leaves)).setCell ⟨w.heap.size + 1 + 1, 0, none⟩ (.bool true)) (w.heap.size + 1) 132 #[.int .i32 q.arg, .string (strB q.name), .int .i64 q.takes, .int .i64 q.leaves] := by
      have h := ((((b2'.set_ 0 (.int .i32 q.arg)).set_ 1 (.string (strB q.name))).set_ 2 (.int .i64 q.takes)).set_ 3 (.int .i64 q.leaves)).far (p := ⟨w.heap.size + 1 + 1, 0, none⟩) (by simp) (.bool true)
      simpa using h
    have b3n : Blk (((((W.setCell ⟨w.heap.size + 1, 0, none⟩ (.int .i32 q.arg)).setCell ⟨w.heap.size + 1, 1, none⟩ (.string (strB q.name))).setCell ⟨w.heap.size + 1, 2, none⟩ (.int .i64 q.takes)).setCell ⟨w.heap.size + 1, 3, none⟩ (.int .i64 q.leaves)).setCell ⟨w.heap.size + 1 + 1, 0, none⟩ (.bool true)) (w.heap.size + 1 + 1) 4 #[.bool true] := by
      have h := ((((b3.far (p := ⟨w.heap.size + 1, 0, none⟩) (by simp) (.int .i32 q.arg)).far (p := ⟨w.heap.size + 1, 1, none⟩) (by simp) (.string (strB q.name))).far (p := ⟨w.heap.size + 1, 2, none⟩) (by simp) (.int .i64 q.takes)).far (p := ⟨w.heap.size + 1, 3, none⟩) (by simp) (.int .i64 q.leaves)).set_ 0 (.bool true)
      simpa using h
    have kBn : Below w.heap.size w (((((W.setCell ⟨w.heap.size + 1, 0, none⟩ (.int .i32 q.arg)).setCell ⟨w.heap.size + 1, 1, none⟩ (.string (strB q.name))).setCell ⟨w.heap.size + 1, 2, none⟩ (.int .i64 q.takes)).setCell ⟨w.heap.size + 1, 3, none⟩ (.int .i64 q.leaves)).setCell ⟨w.heap.size + 1 + 1, 0, none⟩ (.bool true)) := ((((kB.setCell (by simp) _).setCell (by simp) _).setCell (by simp) _).setCell (by simp) _).setCell (by simp <;> omega) _
    have hKn : (((((W.setCell ⟨w.heap.size + 1, 0, none⟩ (.int .i32 q.arg)).setCell ⟨w.heap.size + 1, 1, none⟩ (.string (strB q.name))).setCell ⟨w.heap.size + 1, 2, none⟩ (.int .i64 q.takes)).setCell ⟨w.heap.size + 1, 3, none⟩ (.int .i64 q.leaves)).setCell ⟨w.heap.size + 1 + 1, 0, none⟩ (.bool true)).heap[D]? = some (.deferred (some [])) := by
      have hn : ∀ (A : World) (p : Addr) (v : Value), p.block < W0.heap.size → A.heap[D]? = some (.deferred (some [])) → (A.setCell p v).heap[D]? = some (.deferred (some [])) := fun A p v hp h => (Below.heap_setCell A p v D (by omega)).trans h
      exact hn _ _ _ (by simp <;> omega) (hn _ _ _ (by simp <;> omega) (hn _ _ _ (by simp <;> omega) (hn _ _ _ (by simp <;> omega) (hn _ _ _ (by simp <;> omega) hK))))
    rw [Exit.noGoto_ret]
    generalize (((((W.setCell ⟨w.heap.size + 1, 0, none⟩ (.int .i32 q.arg)).setCell ⟨w.heap.size + 1, 1, none⟩ (.string (strB q.name))).setCell ⟨w.heap.size + 1, 2, none⟩ (.int .i64 q.takes)).setCell ⟨w.heap.size + 1, 3, none⟩ (.int .i64 q.leaves)).setCell ⟨w.heap.size + 1 + 1, 0, none⟩ (.bool true)) = Wf at *
    clear b2 b2' b3 kB e20 e21 e22 e23 f20 f21 f22 f23 c3 f3 hK c0
    refine ⟨by simp, .inl ⟨_, _, rfl, run_takeDeferred hKn, ?_⟩⟩
    have b2f : ∀ o, Blk (Wf.putObj D o) (w.heap.size + 1) 132 #[.int .i32 q.arg, .string (strB q.name), .int .i64 q.takes, .int .i64 q.leaves] := fun o => (World.putObj_heap_other (by omega)).trans b2n
    have b3f : ∀ o, Blk (Wf.putObj D o) (w.heap.size + 1 + 1) 4 #[.bool true] := fun o => (World.putObj_heap_other (by omega)).trans b3n
    have e0 := fun o => (b2f o).cell 0
    have e1 := fun o => (b2f o).cell 1
    have e2 := fun o => (b2f o).cell 2
    have e3 := fun o => (b2f o).cell 3
    have e4 := fun o => (b3f o).cell 0
    simp at e0 e1 e2 e3 e4
    refine ⟨.tuple #[.agg #[.int .i32 q.arg, .string (strB q.name), .int .i64 q.takes, .int .i64 q.leaves], .bool true], by simp [results, Tryd.results87, go_sem, e0, e1, e2, e3, e4], ?_⟩
    exact ⟨by rw [HSO.out]; rfl, kBn.putObj (by omega) _⟩
theorem pFindW (fn arg : Int) (hf : 0 ≤ fn ∧ fn ≤ 255) (B : Nat) (w : World) (hL : LaidW B w) (hB : B ≤ w.heap.size) :
    Calls Tryd.prog 87 #[.agg #[.int .u8 fn, .int .i32 arg]] w (RetV (rowP (findI fn arg)) w) := by
  obtain ⟨n, rfl⟩ := Int.eq_ofNat_of_zero_le hf.1
  by_cases h15 : n = 15
  · subst h15; exact pFindOW arg B w hL hB
  · cases h : findI (n : Int) arg with
    | none => rw [← h]; exact pFindN n arg (by omega) h15 h w hL.fns
    | some r =>
      obtain ⟨hm, hc⟩ := findI_some h
      rcases hc with ⟨e, _⟩ | ⟨_, e2, _⟩
      · omega
      · have hmF : r ∈ tabF := by
          rcases List.mem_append.1 hm with h1 | h1
          · exact h1
          · have := (tabO_ok r h1).1; omega
        rw [← h]; exact pFindF n arg r hmF (by omega) w hL.fns
section
variable (fn arg : Int) (hf : 0 ≤ fn ∧ fn ≤ 255) (B : Nat) (w : World) (hL : LaidW B w) (hB : B ≤ w.heap.size)
include hf hL hB
theorem pMayW : Calls Tryd.prog 70 #[.agg #[.int .u8 fn, .int .i32 arg]] w (RetV (.bool (findI fn arg).isSome) w) := by
  have hB0 : Below w.heap.size w (w.alloc (.cells #[.int .u8 fn, .int .i32 arg] 59)) := (Below.refl _ _).alloc (Nat.le_refl _) _
  have HFi := Lib.hid (pFindW fn arg hf B _ (hL.on (hB0.mono hB)) (Nat.le_trans hB hB0.size))
  unfold rowP rowV at HFi
  generalize (findI fn arg).isSome = ok at *
  generalize (findI fn arg).getD irow0 = r at *
  generalize strB r.name = NM at *
  clear hL
  go_enter Tryd.func70, Tryd.ntmps70
  go_wp2_with (go_at_call 87; refine HFi.out.mono ?_; rintro e w1 ⟨rfl, hb1⟩)
  go_ret
  exact ⟨rfl, (hB0.trans (hb1.mono (by simp <;> omega))).alloc (by have := hb1.size; simp at this; omega) _⟩
end
set_option maxRecDepth 100000 in
set_option maxHeartbeats 4000000 in
theorem pValidW (x : LineL) (hx : LOk x) (B : Nat) (w : World) (hL : LaidW B w) (hB : B ≤ w.heap.size) : Calls Tryd.prog 53 #[.agg (lineC x)] w (RetV (.bool (validB x)) w) := by
  have S := S5w.start hL hB
  have HL := Lib.hid (iLab x.label hx.label)
  have HT := Lib.hid (iLab x.target hx.target)
  have HF := Lib.hid (iLab x.frm hx.frm)
  have HM := Lib.hid (fun w h h2 => pMayW (x.fn : Int) x.arg ⟨by omega, by have := hx.fn; omega⟩ B w h h2)
  have el := strB_empty x.label
  have et := strB_empty x.target
  have ef := strB_empty x.frm
  have hv : validB x = ((x.label.isEmpty || labelB x.label) && (if x.target.isEmpty = true then x.frm.isEmpty && (findI (x.fn : Int) x.arg).isSome
     else labelB x.target && (x.frm.isEmpty || labelB x.frm) && x.arg == 0 && decide (x.fn < 15) && !(x.fn == 2) && !(x.fn == 6))) := rfl
  have HV := Lib.hid hv
  clear hv
  clear hL hB hx
  unfold lineC
  generalize hlab : strB x.label = SL at *
  generalize htar : strB x.target = ST at *
  generalize hfrm : strB x.frm = SF at *
  generalize labelB x.label = bl at *
  generalize labelB x.target = bt at *
  generalize labelB x.frm = bf at *
  generalize (findI (x.fn : Int) x.arg).isSome = bm at *
  generalize x.label.isEmpty = zl at *
  generalize x.target.isEmpty = zt at *
  generalize x.frm.isEmpty = zf at *
  generalize hr : validB x = res at *
  clear hlab htar hfrm hr
  generalize x.fn = fn at *
  generalize x.arg = arg at *
  go_enter Tryd.func53, Tryd.ntmps53
  go_upto_region 1 with (fail)
  have S0 := S.alloc (.cells #[.string SL, .int .u8 fn, .int .i32 arg, .string ST, .string SF] 27)
  have b0 := Blk.new w 27 #[.string SL, .int .u8 fn, .int .i32 arg, .string ST, .string SF]
  obtain ⟨W0, hW0⟩ : ∃ W0, w.alloc (.cells #[.string SL, .int .u8 fn, .int .i32 arg, .string ST, .string SF] 27) = W0 := ⟨_, rfl⟩
  rw [hW0] at S0 b0 ⊢
  clear hW0
  go_cut [11] (fun s11 wx => s11 = .bool (!(zl || bl)) ∧ S5w B w wx ∧ Blk wx w.heap.size 27 #[.string SL, .int .u8 fn, .int .i32 arg, .string ST, .string SF])
  case first =>
    have c00 := b0.cell 0
    have c01 := b0.cell 1
    have c02 := b0.cell 2
    have c03 := b0.cell 3
    have c04 := b0.cell 4
    simp at c00 c01 c02 c03 c04
    cases zl
    · go_wp2_with (go_at_call 69; refine (HL.out _).mono ?_; rintro e w1 ⟨rfl, hb1⟩)
      go_meet
      exact ⟨rfl, S0.call hb1, b0.call hb1⟩
    · go_wp2
      go_meet
      exact ⟨rfl, S0, b0⟩
  case rest =>
    obtain ⟨rfl, S1, b1⟩ := hcut
    clear HL b0 S0 el S
    have c10 := b1.cell 0
    have c11 := b1.cell 1
    have c12 := b1.cell 2
    have c13 := b1.cell 3
    have c14 := b1.cell 4
    simp at c10 c11 c12 c13 c14
    generalize hg : (zl || bl) = g at *
    cases g
    · go_wp2
      refine bodyPost_ret (v := .bool false) (by simp [results, Tryd.results53, go_sem]) rfl ⟨by rw [HV.out]; simp, S1.k⟩
    have HM1 := Lib.hid (HM.out _ S1.l S1.b)
    clear HM
    cases zt
    · cases bt
      · go_wp2_with (go_at_call 69; refine (HT.out _).mono ?_; rintro e w1 ⟨rfl, hb1⟩)
        refine bodyPost_ret (v := .bool false) (by simp [results, Tryd.results53, go_sem]) rfl ⟨by rw [HV.out]; simp, (S1.call hb1).k⟩
      have call2 : ∀ (b1 : Bool), zf = false → True := fun _ _ => trivial
      clear call2
      have fin : ∀ (res' : Bool) (W : World), S5w B w W → res = res' → RetV (.bool res) w (.returned (.bool res')) W := fun r' W h e => ⟨by rw [e], h.k⟩
      have FIN := Lib.hid fin
      clear fin
      have hfn : (fn : Int) < 15 ∨ ¬ (fn : Int) < 15 := Classical.em _
      have HJ : ((zf || bf) = false ∧ res = false) ∨ ((zf || bf) = true ∧ ((¬ arg = 0 ∧ res = false) ∨ (arg = 0 ∧ ((¬ (fn : Int) < 15 ∧ res = false) ∨ ((fn : Int) < 15 ∧ (((fn : Int) = 2 ∧ res = false) ∨ (((fn : Int) != 2) = true ∧ res = !((fn : Int) == 6)))))))) := by
        have h := HV.out
        simp only [Bool.true_and, Bool.false_eq_true, if_false] at h
        have h6 : ((fn : Int) == 6) = (fn == 6) := by rw [Bool.eq_iff_iff]; simp; omega
        rw [h6]
        cases hz : (zf || bf)
        · exact .inl ⟨rfl, by rw [h, hz]; simp⟩
        · refine .inr ⟨rfl, ?_⟩
          rw [hz] at h
          by_cases ha : arg = 0
          · refine .inr ⟨ha, ?_⟩
            by_cases hf : (fn : Int) < 15
            · refine .inr ⟨hf, ?_⟩
              have hf' : fn < 15 := by omega
              by_cases h2 : fn = 2
              · exact .inl ⟨by omega, by rw [h]; simp [h2]⟩
              · exact .inr ⟨by simp; omega, by rw [h]; simp [ha, hf', h2]⟩
            · exact .inl ⟨hf, by rw [h]; have : ¬ fn < 15 := by omega
                                 simp [this]⟩
          · exact .inl ⟨ha, by rw [h]; simp [ha]⟩
      clear hfn HV HM1
      have HJ' := Lib.hid HJ
      clear HJ
      cases zf <;> cases bf
      · obtain ⟨-, hr⟩ : _ ∧ res = false := by rcases HJ'.out with h | ⟨h, _⟩; exact h; exact absurd h (by simp)
        clear HJ'
        have HR := Lib.hid hr
        clear hr
        go_wp2_with (first
          | (go_at_call 69; (with_reducible refine (HT.out wc).mono ?_); rintro e w1 ⟨rfl, hb1⟩
             have S2 := S1.call hb1
             have b2 := b1.call hb1
             have d10 := b2.cell 0
             have d11 := b2.cell 1
             have d12 := b2.cell 2
             have d13 := b2.cell 3
             have d14 := b2.cell 4
             simp at d10 d11 d12 d13 d14
             )
          | (go_at_call 69; (with_reducible refine (HF.out w1).mono ?_); rintro e w2 ⟨rfl, hb2⟩
             have S3 := S2.call hb2
             have b3 := b2.call hb2
             have e10 := b3.cell 0
             have e11 := b3.cell 1
             have e12 := b3.cell 2
             have e13 := b3.cell 3
             have e14 := b3.cell 4
             simp at e10 e11 e12 e13 e14
             ))
        refine bodyPost_ret (v := .bool false) (by simp [results, Tryd.results53, go_sem]) rfl (FIN.out _ _ S3 HR.out)
      · obtain h | ⟨-, h⟩ := HJ'.out
        · exact absurd h.1 (by simp)
        clear HJ'
        rcases h with ⟨h0, hr⟩ | ⟨h0, ⟨h15, hr⟩ | ⟨h15, ⟨h2, hr⟩ | ⟨h2, hr⟩⟩⟩
        · have h0 : (arg == 0) = false := by simpa using h0
          have HR := Lib.hid hr
          clear hr
          go_wp2_with (first
            | (go_at_call 69; (with_reducible refine (HT.out wc).mono ?_); rintro e w1 ⟨rfl, hb1⟩
               have S2 := S1.call hb1
               have b2 := b1.call hb1
               have d10 := b2.cell 0
               have d11 := b2.cell 1
               have d12 := b2.cell 2
               have d13 := b2.cell 3
               have d14 := b2.cell 4
               simp at d10 d11 d12 d13 d14
               )
            | (go_at_call 69; (with_reducible refine (HF.out w1).mono ?_); rintro e w2 ⟨rfl, hb2⟩
               have S3 := S2.call hb2
               have b3 := b2.call hb2
               have e10 := b3.cell 0
               have e11 := b3.cell 1
               have e12 := b3.cell 2
               have e13 := b3.cell 3
               have e14 := b3.cell 4
               simp at e10 e11 e12 e13 e14
               ))
          refine bodyPost_ret (v := .bool false) (by simp [results, Tryd.results53, go_sem]) rfl (FIN.out _ _ S3 HR.out)
        · subst h0
          have HR := Lib.hid hr
          clear hr
          go_wp2_with (first
            | (go_at_call 69; (with_reducible refine (HT.out wc).mono ?_); rintro e w1 ⟨rfl, hb1⟩
               have S2 := S1.call hb1
               have b2 := b1.call hb1
               have d10 := b2.cell 0
               have d11 := b2.cell 1
               have d12 := b2.cell 2
               have d13 := b2.cell 3
               have d14 := b2.cell 4
               simp at d10 d11 d12 d13 d14
               )
            | (go_at_call 69; (with_reducible refine (HF.out w1).mono ?_); rintro e w2 ⟨rfl, hb2⟩
               have S3 := S2.call hb2
               have b3 := b2.call hb2
               have e10 := b3.cell 0
               have e11 := b3.cell 1
               have e12 := b3.cell 2
               have e13 := b3.cell 3
               have e14 := b3.cell 4
               simp at e10 e11 e12 e13 e14
               ))
          refine bodyPost_ret (v := .bool false) (by simp [results, Tryd.results53, go_sem]) rfl (FIN.out _ _ S3 HR.out)
        · subst h0
          have h2 : ((fn : Int) != 2) = false := by rw [h2]; rfl
          have HR := Lib.hid hr
          clear hr
          go_wp2_with (first
            | (go_at_call 69; (with_reducible refine (HT.out wc).mono ?_); rintro e w1 ⟨rfl, hb1⟩
               have S2 := S1.call hb1
               have b2 := b1.call hb1
               have d10 := b2.cell 0
               have d11 := b2.cell 1
               have d12 := b2.cell 2
               have d13 := b2.cell 3
               have d14 := b2.cell 4
               simp at d10 d11 d12 d13 d14
               )
            | (go_at_call 69; (with_reducible refine (HF.out w1).mono ?_); rintro e w2 ⟨rfl, hb2⟩
               have S3 := S2.call hb2
               have b3 := b2.call hb2
               have e10 := b3.cell 0
               have e11 := b3.cell 1
               have e12 := b3.cell 2
               have e13 := b3.cell 3
               have e14 := b3.cell 4
               simp at e10 e11 e12 e13 e14
               ))
          refine bodyPost_ret (v := .bool false) (by simp [results, Tryd.results53, go_sem]) rfl (FIN.out _ _ S3 HR.out)
        · subst h0
          have HR := Lib.hid hr
          clear hr
          go_wp2_with (first
            | (go_at_call 69; (with_reducible refine (HT.out wc).mono ?_); rintro e w1 ⟨rfl, hb1⟩
               have S2 := S1.call hb1
               have b2 := b1.call hb1
               have d10 := b2.cell 0
               have d11 := b2.cell 1
               have d12 := b2.cell 2
               have d13 := b2.cell 3
               have d14 := b2.cell 4
               simp at d10 d11 d12 d13 d14
               )
            | (go_at_call 69; (with_reducible refine (HF.out w1).mono ?_); rintro e w2 ⟨rfl, hb2⟩
               have S3 := S2.call hb2
               have b3 := b2.call hb2
               have e10 := b3.cell 0
               have e11 := b3.cell 1
               have e12 := b3.cell 2
               have e13 := b3.cell 3
               have e14 := b3.cell 4
               simp at e10 e11 e12 e13 e14
               ))
          refine bodyPost_ret (v := .bool (((fn : Int) != 6))) (by simp [results, Tryd.results53, go_sem]) rfl (FIN.out _ _ S3 HR.out)
      · obtain h | ⟨-, h⟩ := HJ'.out
        · exact absurd h.1 (by simp)
        clear HJ'
        rcases h with ⟨h0, hr⟩ | ⟨h0, ⟨h15, hr⟩ | ⟨h15, ⟨h2, hr⟩ | ⟨h2, hr⟩⟩⟩
        · have h0 : (arg == 0) = false := by simpa using h0
          have HR := Lib.hid hr
          clear hr
          go_wp2_with (first
            | (go_at_call 69; (with_reducible refine (HT.out wc).mono ?_); rintro e w1 ⟨rfl, hb1⟩
               have S2 := S1.call hb1
               have b2 := b1.call hb1
               have d10 := b2.cell 0
               have d11 := b2.cell 1
               have d12 := b2.cell 2
               have d13 := b2.cell 3
               have d14 := b2.cell 4
               simp at d10 d11 d12 d13 d14
               ))
          refine bodyPost_ret (v := .bool false) (by simp [results, Tryd.results53, go_sem]) rfl (FIN.out _ _ S2 HR.out)
        · subst h0
          have HR := Lib.hid hr
          clear hr
          go_wp2_with (first
            | (go_at_call 69; (with_reducible refine (HT.out wc).mono ?_); rintro e w1 ⟨rfl, hb1⟩
               have S2 := S1.call hb1
               have b2 := b1.call hb1
               have d10 := b2.cell 0
               have d11 := b2.cell 1
               have d12 := b2.cell 2
               have d13 := b2.cell 3
               have d14 := b2.cell 4
               simp at d10 d11 d12 d13 d14
               ))
          refine bodyPost_ret (v := .bool false) (by simp [results, Tryd.results53, go_sem]) rfl (FIN.out _ _ S2 HR.out)
        · subst h0
          have h2 : ((fn : Int) != 2) = false := by rw [h2]; rfl
          have HR := Lib.hid hr
          clear hr
          go_wp2_with (first
            | (go_at_call 69; (with_reducible refine (HT.out wc).mono ?_); rintro e w1 ⟨rfl, hb1⟩
               have S2 := S1.call hb1
               have b2 := b1.call hb1
               have d10 := b2.cell 0
               have d11 := b2.cell 1
               have d12 := b2.cell 2
               have d13 := b2.cell 3
               have d14 := b2.cell 4
               simp at d10 d11 d12 d13 d14
               ))
          refine bodyPost_ret (v := .bool false) (by simp [results, Tryd.results53, go_sem]) rfl (FIN.out _ _ S2 HR.out)
        · subst h0
          have HR := Lib.hid hr
          clear hr
          go_wp2_with (first
            | (go_at_call 69; (with_reducible refine (HT.out wc).mono ?_); rintro e w1 ⟨rfl, hb1⟩
               have S2 := S1.call hb1
               have b2 := b1.call hb1
               have d10 := b2.cell 0
               have d11 := b2.cell 1
               have d12 := b2.cell 2
               have d13 := b2.cell 3
               have d14 := b2.cell 4
               simp at d10 d11 d12 d13 d14
               ))
          refine bodyPost_ret (v := .bool (((fn : Int) != 6))) (by simp [results, Tryd.results53, go_sem]) rfl (FIN.out _ _ S2 HR.out)
      · obtain h | ⟨-, h⟩ := HJ'.out
        · exact absurd h.1 (by simp)
        clear HJ'
        rcases h with ⟨h0, hr⟩ | ⟨h0, ⟨h15, hr⟩ | ⟨h15, ⟨h2, hr⟩ | ⟨h2, hr⟩⟩⟩
        · have h0 : (arg == 0) = false := by simpa using h0
          have HR := Lib.hid hr
          clear hr
          go_wp2_with (first
            | (go_at_call 69; (with_reducible refine (HT.out wc).mono ?_); rintro e w1 ⟨rfl, hb1⟩
               have S2 := S1.call hb1
               have b2 := b1.call hb1
               have d10 := b2.cell 0
               have d11 := b2.cell 1
               have d12 := b2.cell 2
               have d13 := b2.cell 3
               have d14 := b2.cell 4
               simp at d10 d11 d12 d13 d14
               ))
          refine bodyPost_ret (v := .bool false) (by simp [results, Tryd.results53, go_sem]) rfl (FIN.out _ _ S2 HR.out)
        · subst h0
          have HR := Lib.hid hr
          clear hr
          go_wp2_with (first
            | (go_at_call 69; (with_reducible refine (HT.out wc).mono ?_); rintro e w1 ⟨rfl, hb1⟩
               have S2 := S1.call hb1
               have b2 := b1.call hb1
               have d10 := b2.cell 0
               have d11 := b2.cell 1
               have d12 := b2.cell 2
               have d13 := b2.cell 3
               have d14 := b2.cell 4
               simp at d10 d11 d12 d13 d14
               ))
          refine bodyPost_ret (v := .bool false) (by simp [results, Tryd.results53, go_sem]) rfl (FIN.out _ _ S2 HR.out)
        · subst h0
          have h2 : ((fn : Int) != 2) = false := by rw [h2]; rfl
          have HR := Lib.hid hr
          clear hr
          go_wp2_with (first
            | (go_at_call 69; (with_reducible refine (HT.out wc).mono ?_); rintro e w1 ⟨rfl, hb1⟩
               have S2 := S1.call hb1
               have b2 := b1.call hb1
               have d10 := b2.cell 0
               have d11 := b2.cell 1
               have d12 := b2.cell 2
               have d13 := b2.cell 3
               have d14 := b2.cell 4
               simp at d10 d11 d12 d13 d14
               ))
          refine bodyPost_ret (v := .bool false) (by simp [results, Tryd.results53, go_sem]) rfl (FIN.out _ _ S2 HR.out)
        · subst h0
          have HR := Lib.hid hr
          clear hr
          go_wp2_with (first
            | (go_at_call 69; (with_reducible refine (HT.out wc).mono ?_); rintro e w1 ⟨rfl, hb1⟩
               have S2 := S1.call hb1
               have b2 := b1.call hb1
               have d10 := b2.cell 0
               have d11 := b2.cell 1
               have d12 := b2.cell 2
               have d13 := b2.cell 3
               have d14 := b2.cell 4
               simp at d10 d11 d12 d13 d14
               ))
          refine bodyPost_ret (v := .bool (((fn : Int) != 6))) (by simp [results, Tryd.results53, go_sem]) rfl (FIN.out _ _ S2 HR.out)
    · cases zf
      · go_wp2
        refine bodyPost_ret (v := .bool false) (by simp [results, Tryd.results53, go_sem]) rfl ⟨by rw [HV.out]; simp, S1.k⟩
      · go_wp2_with (go_at_call 70; refine HM1.out.mono ?_; rintro e w1 ⟨rfl, hb1⟩)
        refine bodyPost_ret (v := .bool bm) (by simp [results, Tryd.results53, go_sem]) rfl ⟨by rw [HV.out]; simp, (S1.call hb1).k⟩
end Go.Proofs.YtljeecocbcffcaaDoor

/- check under a weaker word on the variables. -/
namespace Go.Proofs.YtljeecocbcffcaaDoor
open Go.RowKit Go.Maps Go.WideMaps Go.Shelf
attribute [local go_sem] Oper.semAt_some
set_option linter.unusedSimpArgs false
set_option linter.unusedVariables false

theorem S5w.own {B : Nat} {w0 w w1 : World} {b : Nat} (h : S5w B w0 w) (hg : w.grownBy w1 (some b)) (hB : B ≤ w0.heap.size) (hb : w0.heap.size ≤ b) : S5w B w0 w1 := by
  have k1 : Below w0.heap.size w0 w1 := h.k.grown hg h.k.size (fun k e => by injection e; omega)
  have k2 : Below B w w1 := (Below.refl B w).grown hg h.b (fun k e => by injection e; omega)
  exact ⟨h.l.on k2, Nat.le_trans h.b hg.size, k1⟩
set_option maxRecDepth 100000 in
set_option maxHeartbeats 4000000 in
theorem pCheckW (ls : List LineL) (hok : ∀ x ∈ ls, LOk x) (A : Option Addr) (n c : Nat) (hn : n ≤ 1000000) (B : Nat) (w : World) (hr : Reads w w.heap.size 5 A n (linesL ls)) (hL : LaidW B w) (hB : B ≤ w.heap.size) :
    Calls Tryd.prog 59 #[.slice A n c] w (RetC ls w) := by
  have S := Lib.hid (S5w.start hL hB)
  have HR := Lib.hid hr
  have HK := Lib.hid hok
  have HB := Lib.hid hB
  have HN := Lib.hid (lines_len hr)
  have hmm := @run_makeMap Tryd.prog
  clear hr hok hL hB
  go_enter Tryd.func59, Tryd.ntmps59
  go_wp2
  go_loopw [19] (fun i wr => ∃ k : Nat, k ≤ n ∧ i = .int .i64 k ∧ Hid (S5w B w wr) ∧ Hid ((ls.take k).all validB = true)) (fun i _ => n - (intOf i).toNat)
  case atStart => exact ⟨0, by omega, rfl, S, Lib.hid (by simp)⟩
  case round =>
    clear S
    obtain ⟨k, hk, rfl, S, HV⟩ := hrel
    by_cases hlt : k < n
    · have hltI : (k : Int) < n := by omega
      obtain ⟨b, off, x, rfl, hb, hx, c0, c1, c2, c3, c4⟩ := lines_at (HR.out.below S.out.k) hlt
      have hbs : b < wr.heap.size := by have := S.out.k.size; omega
      have b0 := Blk.new wr 27 (lineC x)
      have HS1 := Lib.hid (S.out.alloc (.cells (lineC x) 27))
      have HC := Lib.hid (pValidW x (HK.out x (List.mem_of_getElem? hx)) B _ HS1.out.l HS1.out.b)
      simp only [lineC] at b0 HS1 HC
      have HX := Lib.hid hx
      clear hx
      generalize hv : validB x = bv at *
      have HVX := Lib.hid hv
      clear hv
      cases bv
      · go_wp2_with (go_at_call 53; refine HC.out.mono ?_; rintro e w1 ⟨rfl, hb1⟩)
        have e2 := check_two HX.out HVX.out
        go_ret2
        exact ⟨(HS1.out.call hb1).k, .inr ⟨by rw [e2]; decide, by rw [e2]; rfl⟩⟩
      · go_wp2_with (go_at_call 53; refine HC.out.mono ?_; rintro e w1 ⟨rfl, hb1⟩)
        go_roundw
        case rel => exact ⟨k + 1, by omega, by go_num, Lib.hid (HS1.out.call hb1), Lib.hid (all_take_succ HX.out HV.out HVX.out)⟩
        case measure => simp [intOf]; omega
    · have hltI : ¬ (k : Int) < n := by omega
      obtain rfl : n = k := by omega
      have HA : Hid (ls.all validB = true) := Lib.hid (by have := HV.out; rwa [List.take_of_length_le (by rw [HN.out]; omega)] at this)
      clear HV
      obtain ⟨m, hm⟩ : ∃ m, wr.heap.size = m := ⟨_, rfl⟩
      have HM := Lib.hid (show w.heap.size ≤ m by rw [← hm]; exact S.out.k.size)
      have hO : OwnI (wr.alloc (.map #[] 0)) wr.heap.size 0 (mapL []) := World.ownsMap_made _ _ _ _
      have HO := Lib.hid hO
      have HS := Lib.hid (S.out.alloc (.map #[] 0))
      clear S hO
      rw [hm] at HO
      go_wp2
      go_loopw [30] (fun i wr => ∃ k q : Nat, k ≤ n ∧ i = .int .i64 k ∧ q ≤ k ∧ Hid (S5w B w wr) ∧ Hid (OwnI wr m q (mapL (ls.take k))) ∧ Hid (Dist (ls.take k))) (fun i _ => n - (intOf i).toNat)
      case atStart => exact ⟨0, 0, by omega, rfl, by omega, HS, Lib.hid (by simpa using HO.out), Lib.hid (by simpa using Dist.nil)⟩
      case round =>
        clear HS HO hm
        obtain ⟨k, q, hk, rfl, hq, S, HO, HD⟩ := hrel
        by_cases hlt : k < n
        · have hltI : (k : Int) < n := by omega
          obtain ⟨b, off, x, rfl, hb, hx, c0, c1, c2, c3, c4⟩ := lines_at (HR.out.below S.out.k) hlt
          have hbs : b < wr.heap.size := by have := S.out.k.size; omega
          have HS1 := Lib.hid (S.out.alloc (.cells (lineC x) 27))
          have HO1 := Lib.hid (HO.out.alloc (.cells (lineC x) 27))
          have HXO := Lib.hid (HK.out x (List.mem_of_getElem? hx))
          obtain ⟨cv, hrun⟩ := own_ok HO1.out HXO.out.label
          have hhas := mapL_has x.label (ls.take k)
          have hkey := str_key HXO.out.label
          have hpi : plainElem (H := Unit) Tryd.prog 3 (.int .i64 (k : Int)) = some (.lit (.int .i64 k), []) := plainElem_int Tryd.underlying3 (WalkArith.wf_i64 (by omega))
          simp only [lineC] at HS1 HO1 hrun
          have HX := Lib.hid hx
          have HKY := Lib.hid hkey
          have HPI := Lib.hid hpi
          clear hx hkey hpi S HO
          have el := strB_empty x.label
          by_cases hle : x.label = []
          · have hle2 : x.label.isEmpty = true := by rw [hle]; rfl
            rw [hle2] at el
            have hmap : mapL (ls.take (k + 1)) = mapL (ls.take k) := by rw [take_succ_of HX.out, mapL_snoc, if_pos hle2]
            have HMAP := Lib.hid hmap
            have HD2 := Lib.hid (show Dist (ls.take (k + 1)) by rw [take_succ_of HX.out]; exact HD.out.snoc (fun h => absurd hle h))
            clear hmap hle hle2 hhas
            generalize Maps.has (mapL (ls.take k)) (Lit.string x.label) = hs at *
            generalize strB x.label = SL at *
            go_wp2
            go_roundw
            case rel => exact ⟨k + 1, q, by omega, by go_num, by omega, HS1, Lib.hid (by rw [HMAP.out]; exact HO1.out), HD2⟩
            case measure => simp [intOf]; omega
          · have hle2 : x.label.isEmpty = false := by simpa using hle
            rw [hle2] at el
            rw [hle2] at hhas
            simp only [Bool.not_false, Bool.and_true] at hhas
            cases hat : (atL (ls.take k) x.label).isSome with
            | true =>
              have e60 := check_again HA.out HX.out hle hat
              have E60 := Lib.hid e60
              rw [hat] at hhas
              rw [hhas] at hrun
              clear e60 hat hle hle2 hhas
              generalize strB x.label = SL at *
              go_wp2
              go_ret2
              exact ⟨HS1.out.k, .inr ⟨by rw [E60.out]; decide, by rw [E60.out]; rfl⟩⟩
            | false =>
              rw [hat] at hhas
              rw [hhas] at hrun
              have hln : (ls.take k).length = k := by rw [List.length_take, HN.out]; omega
              have hmap : mapL (ls.take (k + 1)) = (mapL (ls.take k)).put (.string x.label) (.lit (.int .i64 k)) := by rw [take_succ_of HX.out, mapL_snoc, if_neg (by rw [hle2]; decide), hln]
              have HMAP := Lib.hid hmap
              have HD2 := Lib.hid (show Dist (ls.take (k + 1)) by rw [take_succ_of HX.out]; exact HD.out.snoc (fun _ => by simpa using hat))
              clear hmap hle hle2 hhas hat hln
              generalize strB x.label = SL at *
              go_wp2_with (at_mapUpdate; refine wpList_mapUpdate_own _ rfl _ _ _ 72 rfl 9 3 lawStr Tryd.underlying72 _ m q _ rfl HO1.out (by unfold maxLen; omega) _ _ _ rfl rfl HKY.out _ [] HPI.out ?_; intro w3 hown hgr; have HS4 := Lib.hid (HS1.out.own hgr HB.out HM.out); have HO4 := Lib.hid hown; clear hown hgr)
              go_roundw
              case rel => exact ⟨k + 1, q + 1, by omega, by go_num, by omega, HS4, Lib.hid (by rw [HMAP.out]; exact HO4.out), HD2⟩
              case measure => simp [intOf]; omega
        · have hltI : ¬ (k : Int) < n := by omega
          obtain rfl : n = k := by omega
          rw [List.take_of_length_le (by rw [HN.out]; omega)] at HO HD
          go_wp2
          go_loopw [53] (fun i wr => ∃ j : Nat, j ≤ n ∧ i = .int .i64 j ∧ Hid (S5w B w wr) ∧ Hid (OwnI wr m q (mapL ls)) ∧ Hid (∀ i x, i < j → ls[i]? = some x → okL ls i x = true)) (fun i _ => n - (intOf i).toNat)
          case atStart => exact ⟨0, by omega, rfl, S, HO, Lib.hid (by intro i x h; omega)⟩
          case round =>
            clear S HO
            obtain ⟨j, hj, rfl, S, HO, HP⟩ := hrel
            by_cases hjt : j < n
            · have hjtI : (j : Int) < n := by omega
              obtain ⟨b, off, x, rfl, hb, hx, c0, c1, c2, c3, c4⟩ := lines_at (HR.out.below S.out.k) hjt
              have hbs : b < wr.heap.size := by have := S.out.k.size; omega
              have HS1 := Lib.hid (S.out.alloc (.cells (lineC x) 27))
              have HO1 := Lib.hid (HO.out.alloc (.cells (lineC x) 27))
              have HXO := Lib.hid (HK.out x (List.mem_of_getElem? hx))
              obtain ⟨cv, hrun⟩ := own_ok HO1.out HXO.out.target
              obtain ⟨cv2, hrun2⟩ := own_ok HO1.out HXO.out.frm
              have h1 := mapL_has x.target ls
              have h2 := mapL_has x.frm ls
              have et := strB_empty x.target
              have ef := strB_empty x.frm
              have hokl : okL ls j x = ((x.target.isEmpty || Maps.has (mapL ls) (.string x.target)) && (x.frm.isEmpty || Maps.has (mapL ls) (.string x.frm))) := by
                have hlab : (x.label.isEmpty || atL ls x.label == some j) = true := by
                  by_cases hz : x.label = []
                  · simp [hz]
                  · simp [HD.out j x hx hz]
                rw [okL, hlab, h1, h2, Bool.true_and]
                cases x.target.isEmpty <;> cases x.frm.isEmpty <;> simp
              have HOK := Lib.hid hokl
              have HX := Lib.hid hx
              simp only [lineC] at HS1 HO1 hrun hrun2
              clear hx hokl h1 h2 S HO
              generalize Maps.has (mapL ls) (Lit.string x.target) = ht at *
              generalize Maps.has (mapL ls) (Lit.string x.frm) = hf at *
              generalize x.target.isEmpty = zt at *
              generalize x.frm.isEmpty = zf at *
              generalize strB x.target = ST at *
              generalize strB x.frm = SF at *
              have no : okL ls j x = false → checkE ls = 60 := fun h => check_sixty HA.out HX.out h
              have yes : okL ls j x = true → ∀ i y, i < j + 1 → ls[i]? = some y → okL ls i y = true := by
                intro h i y hi hy
                by_cases e : i = j
                · subst e; rw [HX.out] at hy; injection hy with hy; subst hy; exact h
                · exact HP.out i y (by omega) hy
              have NO := Lib.hid no
              have YES := Lib.hid yes
              clear no yes
              cases zt <;> cases zf <;> cases ht <;> cases hf
              all_goals
                go_wp2
                first
                  | (go_roundw
                     case rel => exact ⟨j + 1, by omega, by go_num, HS1, HO1, Lib.hid (YES.out (by rw [HOK.out]; rfl))⟩
                     case measure => simp [intOf]; omega)
                  | (go_ret2
                     have e60 := NO.out (by rw [HOK.out]; rfl)
                     exact ⟨HS1.out.k, .inr ⟨by rw [e60]; decide, by rw [e60]; rfl⟩⟩)
            · have hjtI : ¬ (j : Int) < n := by omega
              obtain rfl : n = j := by omega
              have e0 := check_zero HA.out (fun i x hx => HP.out i x (by have := (List.getElem?_eq_some_iff.1 hx).1; rw [HN.out] at this; exact this) hx)
              go_wp2
              go_ret2
              exact ⟨S.out.k, .inl ⟨e0, m, q, rfl, HO.out, HM.out, HD.out⟩⟩
end Go.Proofs.YtljeecocbcffcaaDoor

/- addresses and layout under a weaker word on the variables. -/
namespace Go.Proofs.YtljeecocbcffcaaDoor
open Go.RowKit Go.Maps Go.WideMaps Go.Shelf
attribute [local go_sem] Oper.semAt_some
set_option linter.unusedSimpArgs false
set_option linter.unusedVariables false

theorem S5w.set {B : Nat} {w0 w : World} (h : S5w B w0 w) (hB : B ≤ w0.heap.size) {p : Addr} (hp : w0.heap.size ≤ p.block) (u : Value) : S5w B w0 (w.setCell p u) := by
  have k1 : Below w0.heap.size w0 (w.setCell p u) := h.k.setCell hp u
  have k2 : Below B w (w.setCell p u) := (Below.refl B w).setCell (by omega) u
  exact ⟨h.l.on k2, by have := h.b; simpa using this, k1⟩
theorem S5w.drew {B : Nat} {w0 w : World} (h : S5w B w0 w) : S5w B w0 w.drew := h.call (Below.refl _ _).drew
set_option maxRecDepth 100000 in
set_option maxHeartbeats 4000000 in
theorem pAddrW (ls : List LineL) (hok : ∀ x ∈ ls, LOk x) (hv : checkE ls = 0) (hn : ls.length ≤ 4096) (hd : Dist ls) (A : Option Addr) (c b q B : Nat) (w : World) (hr : Reads w w.heap.size 5 A ls.length (linesL ls)) (hO : OwnI w b q (mapL ls)) (hL : LaidW B w) (hB : B ≤ w.heap.size) :
    Calls Tryd.prog 60 #[.slice A (ls.length : Nat) c, .map (some b)] w (RetAt ls w) := by
  obtain ⟨i0, hi0, hz0, hz1, hz2⟩ := info_parts int_info
  have hfit : Fit (opds ls) := opds_fit hn fun x hx => (hok x hx).arg
  obtain ⟨n, hnn⟩ : ∃ n, ls.length = n := ⟨_, rfl⟩
  have hol := opds_len ls
  rw [hnn] at hol
  have mk1 := run_make_rowN (P := Tryd.prog) 28 3 i0 _ Tryd.underlying28 hi0 hz0 .i64 .i64 (n + 1) (n + 1) (Nat.le_refl _) (by rw [hz2]; omega) (by omega)
  have mk2 := run_make_rowN (P := Tryd.prog) 28 3 i0 _ Tryd.underlying28 hi0 hz0 .i64 .i64 n n (Nat.le_refl _) (by rw [hz2]; omega) (by omega)
  rw [hz1, Nat.mul_one, made_nats] at mk1 mk2
  have eN : ((n + 1 : Nat) : Int) = (n : Int) + 1 := by omega
  rw [eN] at mk1
  have S0 := S5w.start hL hB
  have k1 : Below w.heap.size w (w.alloc (.cells (ncells (zeros (n + 1))).toArray 3)) := (Below.refl _ _).alloc (Nat.le_refl _) _
  have S1 := (S0.alloc (.cells (ncells (zeros (n + 1))).toArray 3)).alloc (.cells (ncells (zeros n)).toArray 3)
  have O1 := (hO.alloc (.cells (ncells (zeros (n + 1))).toArray 3)).alloc (.cells (ncells (zeros n)).toArray 3)
  have g1 := (Blk.new w 3 (ncells (zeros (n + 1))).toArray).alloc (.cells (ncells (zeros n)).toArray 3)
  have g2 := Blk.new (w.alloc (.cells (ncells (zeros (n + 1))).toArray 3)) 3 (ncells (zeros n)).toArray
  have hsz : (w.alloc (.cells (ncells (zeros (n + 1))).toArray 3)).heap.size = w.heap.size + 1 := by simp
  rw [hsz] at g2
  have hlb := hO.lt
  obtain ⟨W, hW⟩ : ∃ W, (w.alloc (.cells (ncells (zeros (n + 1))).toArray 3)).alloc (.cells (ncells (zeros n)).toArray 3) = W := ⟨_, rfl⟩
  rw [hW] at S1 O1 g1 g2
  rw [← adrs_zeros] at g1
  have S := Lib.hid S1
  have HO := Lib.hid O1
  have G1 := Lib.hid g1
  have G2 := Lib.hid g2
  have HR := Lib.hid hr
  have HB := Lib.hid hB
  have HK := Lib.hid hok
  have HV := Lib.hid hv
  have HF := Lib.hid hfit
  have HOL := Lib.hid hol
  have HLE := Lib.hid (zeros_le hfit)
  rw [hol] at HLE
  have HNN := Lib.hid hnn
  rw [hnn] at HR hn
  rw [hnn]
  clear S0 S1 O1 g1 g2 hr hok hv hfit hol hL hB hO k1 eN hnn
  go_enter Tryd.func60, Tryd.ntmps60
  go_upto_region 4 with (fail)
  go_loopw [7] (fun a wr => ∃ (L : List Nat) (ag : Bool), a = .bool ag ∧ Hid (LE L (fixL (opds ls))) ∧ Hid (ag = false → L = fixL (opds ls)) ∧ Hid (S5w B w wr) ∧ Hid (OwnI wr b q (mapL ls)) ∧
      Hid (Blk wr w.heap.size 3 (ncells (adrs L n)).toArray) ∧ Hid (Blk wr (w.heap.size + 1) 3 (ncells L).toArray)) (fun a wr => roomA w.heap.size n wr + flagN a)
  case atStart => exact ⟨zeros n, true, rfl, HLE, Lib.hid (by simp), S, HO, G1, G2⟩
  case round =>
    clear S HO G1 G2 HLE hW hsz
    obtain ⟨L, ag, rfl, HLE, HAG, S, HO, G1, G2⟩ := hrel
    cases ag with
    | false =>
      have e := HAG.out rfl
      have g1 := G1.out
      rw [e] at g1
      go_wp2
      go_ret
      refine ⟨w.heap.size, by rw [HNN.out]; rfl, ?_, Nat.le_refl _, S.out.k⟩
      rw [HNN.out]; exact g1
    | true =>
      have hU : Hid (LE (upL (opds ls) L) (fixL (opds ls))) := Lib.hid (upL_le HF.out HLE.out)
      have hL1 : Hid (L.length = n) := Lib.hid (by rw [HLE.out.1, fixL_len HF.out, HOL.out])
      have hU1 : Hid ((upL (opds ls) L).length = L.length) := Lib.hid (by rw [upL_len (by rw [hL1.out, HOL.out]), hL1.out, HOL.out])
      obtain ⟨U, hUe⟩ : ∃ U, upL (opds ls) L = U := ⟨_, rfl⟩
      have HUE := Lib.hid hUe
      rw [hUe] at hU hU1
      have HRM := Lib.hid (roomA_eq G1.out)
      clear hUe
      go_wp2
      go_loopw [7, 23] (fun a p wr => ∃ i : Nat, i ≤ n ∧ p = .int .i64 i ∧ a = .bool (!stillB U L i) ∧ Hid (S5w B w wr) ∧ Hid (OwnI wr b q (mapL ls)) ∧
        Hid (Blk wr w.heap.size 3 (ncells (adrs L n)).toArray) ∧ Hid (Blk wr (w.heap.size + 1) 3 (ncells (mixL U L i)).toArray)) (fun _ p _ => n - (intOf p).toNat)
      case atStart => exact ⟨0, by omega, rfl, by rw [stillB_zero]; rfl, S, HO, G1, by rw [mixL_zero]; exact G2⟩
      case round =>
        clear S HO G1 G2
        obtain ⟨i, hi, rfl, rfl, S, HO, G1, G2⟩ := hrel
        by_cases hlt : i < n
        · have hltI : (i : Int) < n := by omega
          obtain ⟨bk, off, x, rfl, hbk, hx, c0, c1, c2, c3, c4⟩ := lines_at (HR.out.below S.out.k) hlt
          have hbs : bk < wr.heap.size := by have := S.out.k.size; omega
          have hxo := HK.out x (List.mem_of_getElem? hx)
          have hcb := valid_code (check_valid HV.out hx)
          have hop := opds_get hx
          have h8 := fix8 HF.out HLE.out
          have hv32 := val_is32 HF.out h8 hop
          obtain ⟨W, hWW⟩ : ∃ W, wr.alloc (.cells (lineC x) 27) = W := ⟨_, rfl⟩
          have S1 := S.out.alloc (.cells (lineC x) 27)
          have O1 := HO.out.alloc (.cells (lineC x) 27)
          have G11 := G1.out.alloc (.cells (lineC x) 27)
          have G21 := G2.out.alloc (.cells (lineC x) 27)
          have b0 := Blk.new wr 27 (lineC x)
          rw [hWW] at S1 O1 G11 G21 b0
          have HC := pOperand ls hx hxo (by rw [HNN.out]; exact hn) (b := b) (q := q) hd h8 (some ⟨w.heap.size, 0, none⟩) (n + 1) W.drew.heap.size W.drew O1 (Nat.le_refl _) (by rw [HNN.out]; exact Reads.of_blk (w := W.drew) G11 (by rw [ncells_len, adrs_len]))
          rw [HNN.out] at HC
          have HC := Lib.hid HC
          have hu := upL_get (os := opds ls) (l := L) (by rw [hL1.out, HOL.out]) hop
          rw [HUE.out] at hu
          have hli : L[i]? = some (L.getD i 0) := by
            have : i < L.length := by rw [hL1.out]; exact hlt
            rw [List.getD_eq_getElem?_getD, List.getElem?_eq_getElem this]; rfl
          have HLen := Lib.hid (fun w => cLen x.fn (valO L (opdL ls i x)) hv32 w)
          rw [hcb] at HLen
          simp only [if_true] at HLen
          generalize valO L (opdL ls i x) = v at *
          have hlv := lenV_le hv32
          generalize lenV v = nv at *
          have hl8 := h8 i
          generalize L.getD i 0 = li at *
          simp only [lineC] at hWW b0 HC
          have HU := Lib.hid hu
          have HLI := Lib.hid hli
          have HS1 := Lib.hid S1
          have HO1 := Lib.hid O1
          have HG1 := Lib.hid G11
          have HG2 := Lib.hid G21
          clear hu hli S1 O1 G11 G21 hx hxo hcb hop h8 hv32 S HO G1 G2
          go_upto_region 9 with (fail)
          have hbW := b0.lt
          have d00 := b0.cell 0
          have d01 := b0.cell 1
          have d02 := b0.cell 2
          have d03 := b0.cell 3
          have d04 := b0.cell 4
          simp at d00 d01 d02 d03 d04
          go_region_held3 (fun w' => W.heap.size ≤ w'.heap.size ∧ ∀ b o, b < W.heap.size → w'.cell? ⟨b, o, none⟩ = W.cell? ⟨b, o, none⟩) (first | exact SBel.drew | exact SBel.drew.below hb1 | exact (SBel.drew.below hb1).below hb2) (first
            | (go_at_call 41; (with_reducible refine HC.out.mono ?_); rintro e w1 ⟨rfl, hb1⟩)
            | (go_at_call 79; refine (HLen.out _).mono ?_; rintro e w2 ⟨rfl, hb2⟩))
          have HS2 := Lib.hid ((HS1.out.drew.call hb1).call hb2)
          have HO2 := Lib.hid (own_call (own_call HO1.out.drew hb1) hb2)
          have HG12 := Lib.hid ((HG1.out.drew.call hb1).call hb2)
          have HG22 := Lib.hid ((HG2.out.drew.call hb1).call hb2)
          clear HS1 HO1 HG1 HG2 HC HLen
          have cl := ncell_at HG22.out (k := i) (by rw [mixL_at hU1.out (by rw [hL1.out]; exact hlt)]; exact HLI.out)
          clear hb1 hb2
          by_cases hgt : li < nv
          · have hgtI : (li : Int) < nv := by omega
            have cf := HG22.out.frozen i
            have hmax : U[i]? = some nv := by rw [HU.out, Nat.max_eq_right (by omega)]
            have HMX := Lib.hid hmax
            clear hmax
            go_wp2
            go_roundw
            case rel =>
              refine ⟨i + 1, by omega, by go_num, by rw [stillB_grown hU1.out HMX.out HLI.out (by omega)]; rfl, Lib.hid (HS2.out.set HB.out (by simp) _), Lib.hid (HO2.out.setCell (by simp; omega) _), Lib.hid (HG12.out.far (by simp) _), Lib.hid ?_⟩
              rw [← mixL_set hU1.out HMX.out, ← ncells_set]
              exact HG22.out.set_ _ _
            case measure => simp [intOf]; omega
          · have hgtI : ¬ (li : Int) < nv := by omega
            go_wp2
            go_roundw
            case rel => exact ⟨i + 1, by omega, by go_num, by rw [stillB_keep (by rw [HU.out, Nat.max_eq_left (by omega)]) HLI.out], HS2, HO2, HG12, by rw [mixL_keep hU1.out (by rw [HU.out, Nat.max_eq_left (by omega)]) HLI.out]; exact HG22⟩
            case measure => simp [intOf]; omega
        · have hltI : ¬ (i : Int) < n := by omega
          obtain rfl : n = i := by omega
          have hst : stillB U L n = decide (U = L) := by have := stillB_end hU1.out; rwa [hL1.out] at this
          rw [hst]
          have hmx : mixL U L n = U := by have := mixL_end hU1.out; rwa [hL1.out] at this
          rw [hmx] at G2
          clear hst hmx hlt hltI hi
          rw [← mixA_zero L U n] at G1
          have hUn : Hid (U.length = n) := Lib.hid (by rw [hU1.out, hL1.out])
          have h8 := Lib.hid (fix8 HF.out hU.out)
          have ha8 := Lib.hid (fix_adr HF.out hU.out)
          obtain ⟨f0, hf0⟩ : ∃ f0, (!decide (U = L)) = f0 := ⟨_, rfl⟩
          have HF0 := Lib.hid hf0
          rw [hf0]
          clear hf0
          go_wp2
          go_loopw [50] (fun p wr => ∃ j : Nat, j ≤ n ∧ p = .int .i64 j ∧ Hid (S5w B w wr) ∧ Hid (OwnI wr b q (mapL ls)) ∧
            Hid (Blk wr w.heap.size 3 (ncells (mixL (adrs U n) (adrs L n) (j + 1))).toArray) ∧ Hid (Blk wr (w.heap.size + 1) 3 (ncells U).toArray)) (fun p _ => n - (intOf p).toNat)
          case atStart => exact ⟨0, by omega, rfl, S, HO, G1, G2⟩
          case round =>
            clear S HO G1 G2
            obtain ⟨j, hj, rfl, S, HO, G1, G2⟩ := hrel
            by_cases hjt : j < n
            · have hjtI : (j : Int) < n := by omega
              have hju : U[j]? = some (U.getD j 0) := by
                have : j < U.length := by rw [hUn.out]; exact hjt
                rw [List.getD_eq_getElem?_getD, List.getElem?_eq_getElem this]; rfl
              have c1 := ncell_at G2.out hju
              have c2 := ncell_at G1.out (mixA_at (l := L) (u := U) hjt)
              have c3 := ncell_at G1.out (k := j + 1) (x := adr L (j + 1)) (by rw [mixL_at (by rw [adrs_len, adrs_len]) (by rw [adrs_len]; omega), adrs_get _ (by omega)])
              have cf := G1.out.frozen (j + 1)
              have hset := Lib.hid (mixA_set (l := L) (u := U) hjt)
              have b1 := h8.out j
              have b2 := ha8.out j
              have w1 : IntKind.i64.wrap ((j : Int) + 1) = (j : Int) + 1 := IntWalk.i64_in _ (by omega)
              have hsum : Hid (((adr U j : Nat) : Int) + ((U.getD j 0 : Nat) : Int) = ((adr U j + U.getD j 0 : Nat) : Int)) := Lib.hid (by omega)
              generalize hx1 : U.getD j 0 = nj at *
              generalize hx2 : adr U j = aj at *
              clear hx1 hx2 hju
              go_wp2
              go_roundw
              case rel =>
                refine ⟨j + 1, by omega, by go_num, Lib.hid (S.out.set HB.out (by simp) _), Lib.hid (HO.out.setCell (by simp; omega) _), Lib.hid ?_, Lib.hid (G2.out.far (by simp) _)⟩
                rw [← hset.out, ← ncells_set, ← hsum.out]
                exact G1.out.set_ _ _
              case measure => simp [intOf]; omega
            · have hjtI : ¬ (j : Int) < n := by omega
              obtain rfl : n = j := by omega
              rw [mixA_end] at G1
              go_wp2
              go_roundw
              case rel =>
                refine ⟨U, f0, rfl, hU, Lib.hid (fun h => ?_), S, HO, G1, G2⟩
                rw [← HF0.out] at h
                have hul : U = L := by simpa using h
                have := upL_same HF.out HLE.out (by rw [HUE.out, hul])
                rw [hul]; exact this
              case measure =>
                rw [HRM.out, roomA_eq G1.out]
                have h1 := ha8.out n
                cases f0 with
                | false =>
                  have hul : U = L := by simpa using HF0.out
                  rw [hul]
                  show _ + 0 < _ + 1
                  omega
                | true =>
                  have hul : U ≠ L := by simpa using HF0.out
                  have h2 := upL_more HF.out HLE.out (by rw [HUE.out]; exact hul)
                  rw [HUE.out, HOL.out] at h2
                  show _ + 1 < _ + 1
                  omega
set_option maxRecDepth 100000 in
set_option maxHeartbeats 4000000 in
theorem pLayoutW (ls : List LineL) (hok : ∀ x ∈ ls, LOk x) (hn : ls.length ≤ 4096) (A : Option Addr) (c B : Nat) (w : World) (hr : Reads w w.heap.size 5 A ls.length (linesL ls)) (hL : LaidW B w) (hB : B ≤ w.heap.size) :
    Calls Tryd.prog 39 #[.slice A (ls.length : Nat) c] w (RetLay ls w) := by
  have HC := Lib.hid (pCheckW ls hok A ls.length c (by omega) B w hr hL hB)
  have HA := Lib.hid (fun (hv : checkE ls = 0) (hd : Dist ls) b q w1 (hr : Reads w1 w1.heap.size 5 A ls.length (linesL ls)) (hO : OwnI w1 b q (mapL ls)) (hL : LaidW B w1) (hB : B ≤ w1.heap.size) => pAddrW ls hok hv hn hd A c b q B w1 hr hO hL hB)
  have S := S5w.start hL hB
  have h8 : checkE ls = 0 → adr (fixL (opds ls)) ls.length ≤ 8 * ls.length := fun _ => fix_adr (opds_fit hn fun x hx => (hok x hx).arg) (LE.refl _) _
  have hg := adrs_get (fixL (opds ls)) (Nat.le_refl ls.length)
  have HR := Lib.hid hr
  have HS := Lib.hid S
  clear hok hL hB S hr
  unfold RetLay
  unfold RetAt at HA
  generalize adr (fixL (opds ls)) ls.length = top at *
  generalize ls.length = n at *
  generalize adrs (fixL (opds ls)) n = AL at *
  go_enter Tryd.func39, Tryd.ntmps39
  go_upto_region 1 with (fail)
  by_cases he : checkE ls = 0
  · have HC0 : Hid (Calls Tryd.prog 59 #[.slice A n c] w fun e w' => Below w.heap.size w w' ∧ ∃ b q, e = .returned (.tuple #[.map (some b), .int .i64 0]) ∧ OwnI w' b q (mapL ls) ∧ w.heap.size ≤ b ∧ Dist ls) :=
      Lib.hid (HC.out.mono fun e w' h => ⟨h.1, by
        rcases h.2 with h | h
        · exact h.2
        · exact absurd he h.1⟩)
    have h8' := h8 he
    clear HC h8
    go_wp2_with (first
      | (go_at_call 59; refine HC0.out.mono ?_; rintro e w1 ⟨hb1, b, q, rfl, hO1, hle1, hd⟩
         have HO1 := Lib.hid hO1
         have HD := Lib.hid hd
         have HB1 := Lib.hid hb1
         have HS1 := Lib.hid (HS.out.call hb1)
         have HR1 := Lib.hid ((HR.out.below hb1).more hb1.size)
         clear hO1 hd)
      | (go_at_call 60; refine (HA.out he HD.out b q w1 HR1.out HO1.out HS1.out.l HS1.out.b).mono ?_; rintro e w2 ⟨g, rfl, hg2, hle2, hb2⟩
         have hgc := ncell_at hg2 hg
         have hgl := hg2.lt))
    go_ret3
    exact ⟨(HS1.out.call hb2).k, .inl ⟨he, b, q, g, rfl, own_call HO1.out hb2, hg2, hle1, Nat.le_trans HB1.out.size hle2, HD.out⟩⟩
  · have HC0 : Hid (Calls Tryd.prog 59 #[.slice A n c] w fun e w' => Below w.heap.size w w' ∧ e = .returned (.tuple #[.map none, .int .i64 (checkE ls)])) :=
      Lib.hid (HC.out.mono fun e w' h => ⟨h.1, by
        rcases h.2 with h | h
        · exact absurd h.1 he
        · exact h.2⟩)
    have hne : (checkE ls != 0) = true := by simpa using he
    have HE := Lib.hid he
    clear HC h8 HA he
    go_wp2_with (go_at_call 59; refine HC0.out.mono ?_; rintro e w1 ⟨hb1, rfl⟩)
    go_ret3
    exact ⟨hb1, .inr ⟨HE.out, rfl⟩⟩
end Go.Proofs.YtljeecocbcffcaaDoor

/- Assemble under a weaker word on the variables. -/
namespace Go.Proofs.YtljeecocbcffcaaDoor
open Go.RowKit Go.Maps Go.WideMaps Go.Shelf
attribute [local go_sem] Oper.semAt_some
set_option linter.unusedSimpArgs false
set_option linter.unusedVariables false

theorem S5w.grownR {B : Nat} {w0 w w1 : World} {v : Value} {e size n : Nat} {xs : List Value} (h : S5w B w0 w) (hown : w.ownsRow w0.heap.size e size v n xs) (hg : w.grownBy w1 v.ownBlock) (hB : B ≤ w0.heap.size) : S5w B w0 w1 := by
  have k1 : Below w0.heap.size w0 w1 := h.k.grown hg h.k.size (fun k e => (hown.lt k e).1)
  have k2 : Below B w w1 := (Below.refl B w).grown hg h.b (fun k e => Nat.le_trans hB (hown.lt k e).1)
  exact ⟨h.l.on k2, Nat.le_trans h.b hg.size, k1⟩
set_option maxRecDepth 100000 in
set_option maxHeartbeats 4000000 in
theorem pAssembleW (ls : List LineL) (hok : ∀ x ∈ ls, LOk x) (hn : ls.length ≤ 4096) (A : Option Addr) (c B : Nat) (w : World) (hr : Reads w w.heap.size 5 A ls.length (linesL ls)) (hL : LaidW B w) (hB : B ≤ w.heap.size) :
    Calls Tryd.prog 14 #[.slice A (ls.length : Nat) c] w (RetAsm ls w) := by
  have HC := Lib.hid (pLayoutW ls hok hn A c B w hr hL hB)
  have hfit : Fit (opds ls) := opds_fit hn fun x hx => (hok x hx).arg
  have h8 := fix8 hfit (LE.refl _)
  have hS := S5w.start hL hB
  unfold RetAsm
  by_cases he : checkE ls = 0
  · have HC0 := Lib.hid (HC.out.mono fun e w' h => h.zero he)
    clear HC
    have hv32 : ∀ (k : Nat) (x : LineL), ls[k]? = some x → is32 (valO (fixL (opds ls)) (opdL ls k x)) := fun k x hx => val_is32 hfit h8 (opds_get hx)
    have hcl := codeK_len hv32
    have hend := codeK_end ls
    have HOP := Lib.hid (fun (k : Nat) (x : LineL) (hx : ls[k]? = some x) b q (hd : Dist ls) g w1 (hO : OwnI w1 b q (mapL ls)) (hg : Blk w1 g 3 (ncells (adrs (fixL (opds ls)) ls.length)).toArray) =>
      pOperand ls hx (hok x (List.mem_of_getElem? hx)) hn (b := b) (q := q) hd h8 (some ⟨g, 0, none⟩) (ls.length + 1) w1.heap.size w1 hO (Nat.le_refl _) (Reads.of_blk hg (by rw [ncells_len, adrs_len])))
    have HEN := Lib.hid (fun (k : Nat) (x : LineL) (hx : ls[k]? = some x) w1 => pEncoded x _ (hv32 k x hx) (valid_code (check_valid he hx)) w1)
    generalize fixL (opds ls) = F at *
    have hlen : ls.length = ls.length := rfl
    generalize hnn : ls.length = n at *
    obtain ⟨i0, hi0, hz0, hz1, hz2⟩ := info_parts byte_info
    have HE := Lib.hid he
    have HCL := Lib.hid hcl
    have HEND := Lib.hid hend
    have HS := Lib.hid hS
    have HR := Lib.hid hr
    have HV32 := Lib.hid hv32
    have HNN := Lib.hid hnn
    have HBB := Lib.hid hB
    clear h8 he hcl hend hS hr hok hfit hv32 hL hnn hlen hB
    go_enter Tryd.func14, Tryd.ntmps14
    go_wp2_with (go_at_call 39; refine HC0.out.mono ?_; rintro e w1 ⟨hb1, b, q, g, rfl, hO1, hg1, hle1, hle2, hd⟩
                 have HS1 := Lib.hid (HS.out.call hb1)
                 have HO1 := Lib.hid hO1
                 have HG1 := Lib.hid hg1
                 have HD := Lib.hid hd
                 have HN1 : Hid (w1.ownsRow w.heap.size 5 1 (.slice none 0 0) 0 (bcells (codeK F ls 0))) := Lib.hid (World.ownsRow_nil _ _ _ _)
                 clear hO1 hg1 hd hb1)
    go_loopw [2, 19] (fun v p wr => ∃ k : Nat, k ≤ n ∧ p = .int .i64 k ∧ Hid (S5w B w wr) ∧ Hid (OwnI wr b q (mapL ls)) ∧ Hid (Blk wr g 3 (ncells (adrs F n)).toArray) ∧ Hid (wr.ownsRow w.heap.size 5 1 v (codeK F ls k).length (bcells (codeK F ls k)))) (fun _ p _ => n - (intOf p).toNat)
    case atStart => exact ⟨0, by omega, rfl, HS1, HO1, HG1, HN1⟩
    case round =>
      clear HS1 HO1 HG1 HN1
      obtain ⟨k, hk, rfl, S, HO, HG, HN⟩ := hrel
      by_cases hlt : k < n
      · have hltI : (k : Int) < n := by omega
        obtain ⟨bk, off, x, rfl, hbk, hx, c0, c1, c2, c3, c4⟩ := lines_at (HR.out.below S.out.k) hlt
        have hbs : bk < wr.heap.size := by have := S.out.k.size; omega
        have hsuc := codeK_succ (F := F) hx
        have hv32 := HV32.out k x hx
        obtain ⟨W, hWW⟩ : ∃ W, wr.alloc (.cells (lineC x) 27) = W := ⟨_, rfl⟩
        have S1 := S.out.alloc (.cells (lineC x) 27)
        have O1 := HO.out.alloc (.cells (lineC x) 27)
        have G1 := HG.out.alloc (.cells (lineC x) 27)
        have N1 := HN.out.alloc (.cells (lineC x) 27)
        have b0 := Blk.new wr 27 (lineC x)
        rw [hWW] at S1 O1 G1 N1 b0
        have HCO := Lib.hid (HOP.out k x hx b q HD.out g W.drew O1 G1)
        have HCE := Lib.hid (HEN.out k x hx)
        have hl8 := lenV_le hv32
        have hlk := HCL.out k
        have hel := encI_len x.fn (valO F (opdL ls k x))
        simp only [lineC] at hWW b0 HCO HCE
        have HSUC := Lib.hid hsuc
        generalize valO F (opdL ls k x) = vv at *
        generalize encI x.fn vv = en at *
        generalize codeK F ls k = ck at *
        have HS1 := Lib.hid S1
        have HO1 := Lib.hid O1
        have HG1 := Lib.hid G1
        have HN1 := Lib.hid N1
        have hbW := b0.lt
        clear hsuc hv32 S1 O1 G1 N1 S HO HG HN HOP HEN
        have h1c : ∀ u ∈ bcells en, u.oneCell' = true := by
          intro u hu
          obtain ⟨z, -, rfl⟩ := List.mem_map.1 hu
          rfl
        generalize hlv : lenV vv = lv at *
        go_upto_region 7 with (fail)
        obtain ⟨d00, d01, d02, d03, d04⟩ := cells5 b0
        go_region_held3 (fun w' => w'.cell? ⟨wr.heap.size, 0, none⟩ = some (.string (strB x.label)) ∧ w'.cell? ⟨wr.heap.size, 1, none⟩ = some (.int .u8 x.fn) ∧ w'.cell? ⟨wr.heap.size, 2, none⟩ = some (.int .i32 x.arg) ∧ w'.cell? ⟨wr.heap.size, 3, none⟩ = some (.string (strB x.target)) ∧ w'.cell? ⟨wr.heap.size, 4, none⟩ = some (.string (strB x.frm)))
          (first | exact cells5 b0.drew | exact cells5 (b0.drew.call hb1) | exact cells5 ((b0.drew.call hb1).call hb2) | exact cells5 bx3)
          (first
            | (go_at_call 41; (with_reducible refine HCO.out.mono ?_); rintro e w1 ⟨rfl, hb1⟩)
            | (go_at_call 40; refine (HCE.out _).mono ?_; intro e w2 hret; obtain ⟨A2, c2, rfl, hown2, hb2, hle2⟩ := hret.cell
               have N2 := (HN1.out.drew'.keep hb1 (Nat.le_refl _)).keep hb2 (Nat.le_refl _)
               have R2 := Reads.of_own hown2)
            | (refine step_append_any w2 rfl (.tmp 24) (.tmp 31) 22 rfl w.heap.size 5 i0 _ 1 1 Tryd.underlying22 hi0 hz0 hz1 hz2 rfl (by decide) _ _ _ rfl N2 w2.heap.size A2 lv c2 (bcells en) rfl R2 h1c (by unfold maxLen; omega) (by omega) (by have := HS1.out.k.size; have := hb1.size; have := hb2.size; simp at *; omega) ?_
               intro v' w3 hown3 hg3 hat3
               have bx3 := ((b0.drew.call hb1).call hb2).grown hg3 (by have := own_blk_ne N2 ((b0.drew.call hb1).call hb2) (by decide); exact fun h => this h.symm)))
        have HS3 := Lib.hid (((HS1.out.drew.call hb1).call hb2).grownR N2 hg3 HBB.out)
        have O2 := own_call (own_call HO1.out.drew hb1) hb2
        have HO3 := Lib.hid (World.ownsMap.kept O2 hg3 (own_map_ne N2 O2))
        have G2 := (HG1.out.drew.call hb1).call hb2
        have HG3 := Lib.hid (G2.grown hg3 (fun h => own_blk_ne N2 G2 (by decide) h.symm))
        have HN3 : Hid (w3.ownsRow w.heap.size 5 1 v' (ck ++ en).length (bcells (ck ++ en))) := Lib.hid (by rw [List.length_append, hel, bcells_append]; exact hown3)
        clear O2 G2 N2 R2 hb1 hb2 hg3 hat3 bx3 hown2 hown3
        go_wp2
        go_roundw
        case rel => exact ⟨k + 1, by omega, by go_num, HS3, HO3, HG3, by rw [HSUC.out]; exact HN3⟩
        case measure => simp [intOf]; omega
      · have hltI : ¬ (k : Int) < n := by omega
        obtain rfl : n = k := by omega
        rw [HEND.out] at HN
        obtain ⟨A3, c3, rfl⟩ := own_form HN.out
        clear HOP HEN
        go_wp2
        go_quiet (fail)
        go_wp2
        go_ret3
        exact ⟨below_drewN S.out.k nq, .inl ⟨HE.out, A3, c3, g, rfl, HN.out, HG.out.drewN nq, hle2⟩⟩
  · have HC0 := Lib.hid (HC.out.mono fun e w' h => h.not he)
    have hne : (checkE ls != 0) = true := by simpa using he
    clear HC
    go_enter Tryd.func14, Tryd.ntmps14
    go_wp2_with (go_at_call 39; refine HC0.out.mono ?_; rintro e w1 ⟨hb1, rfl⟩)
    go_ret3
    exact ⟨hb1, .inr ⟨he, rfl⟩⟩
end Go.Proofs.YtljeecocbcffcaaDoor
