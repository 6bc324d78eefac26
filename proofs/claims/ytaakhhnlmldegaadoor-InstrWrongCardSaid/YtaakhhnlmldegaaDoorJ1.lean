
/- The program's row of an operation: a range over the rows, left at the first that fits. -/
import Derived.Test.YtaakhhnlmldegaaDoorI9
namespace Go.Proofs.YtaakhhnlmldegaaDoor
open Go.RowKit Go.Shelf
attribute [local go_sem] Oper.semAt_some

theorem seqUntil_rows (n B : Nat) (w : World) (hBl : Blanks B w) (hB : B ≤ w.heap.size) (X : Nat → Prop) (hX : ∀ k, X k → k < w.heap.size) :
    SeqUntil Fence.wide n Tryd.prog 35 #[] (fun r : IRow => #[rowV r]) X tabO w := rows_iter n X w hX B hBl hB
def rowC (r : IRow) : Array Value := #[.int .i32 r.arg, .string (strB r.name), .int .i64 r.takes, .int .i64 r.leaves]
set_option maxRecDepth 100000 in
set_option maxHeartbeats 2000000 in
theorem pFindO (arg : Int) (B : Nat) (w : World) (hL : Laid5 B w) (hB : B ≤ w.heap.size) :
    Calls Tryd.prog 15 #[.agg #[.int .u8 15, .int .i32 arg]] w (RetV (rowP (findI 15 arg)) w) := by
  have hF : findI 15 arg = tabO.find? fun r => (r.arg : Int) == arg := by unfold findI; rw [if_pos rfl]
  have HF := Lib.hid hF
  have c0 : w.cell? ⟨0, 15, none⟩ = some (.string ⟨#[]⟩) := hL.fns.cell rfl
  have hg' : 0 < w.heap.size := hL.fns.lt
  have HL := Lib.hid hL
  clear hF hL
  refine (callsIn_wide (n := 9)).1 ?_
  refine callsIn_of_wp_marks Tryd.func15 rfl trivial ?_ rfl
  refine wpIn_wide.2 ?_
  simp only [Tryd.ntmps15, List.size_toArray, List.length_cons, List.length_nil, Nat.reduceAdd, Nat.reduceSub, Array.replicate_succ, Array.replicate_zero, List.push_toArray, List.append_toArray, List.nil_append, List.cons_append]
  go_wp2
  go_step3
  go_wp2
  go_step3
  go_wp2_with (go_at_call 20; refine (irows _).mono ?_; rintro e w' ⟨rfl, rfl⟩)
  obtain ⟨W0, hW0⟩ : ∃ W0, ((w.alloc (Obj.cells #[.int .u8 15, .int .i32 arg] 23)).alloc (Obj.cells #[.int .i32 0, .string ⟨#[]⟩, .int .i64 0, .int .i64 0] 40)).alloc (Obj.cells #[.bool false] 4) = W0 := ⟨_, rfl⟩
  have b1 : Blk W0 w.heap.size 23 #[.int .u8 15, .int .i32 arg] := by rw [← hW0]; exact ((Blk.new w _ _).alloc _).alloc _
  have b2 : Blk W0 (w.heap.size + 1) 40 (rowC irow0) := by
    rw [← hW0]; have h := (Blk.new (w.alloc (Obj.cells #[.int .u8 15, .int .i32 arg] 23)) 40 (rowC irow0)).alloc (Obj.cells #[.bool false] 4); rwa [World.size_alloc] at h
  have b3 : Blk W0 (w.heap.size + 2) 4 #[.bool false] := by
    rw [← hW0]; have h := Blk.new ((w.alloc (Obj.cells #[.int .u8 15, .int .i32 arg] 23)).alloc (Obj.cells #[.int .i32 0, .string ⟨#[]⟩, .int .i64 0, .int .i64 0] 40)) 4 #[.bool false]; rwa [World.size_alloc, World.size_alloc] at h
  have kB : Below w.heap.size w W0 := by rw [← hW0]; exact (((Below.refl _ w).alloc (Nat.le_refl _) _).alloc (by simp) _).alloc (by simp <;> omega) _
  have hsz : W0.heap.size = w.heap.size + 3 := by rw [← hW0]; simp
  rw [hW0]
  clear hW0
  have hBl : Blanks B W0 := (HL.out.on (kB.mono hB)).2.1
  refine wpIn_wide.1 (wpIn_range_until (F := Fence.wide) (n := 9) rfl rfl (gf := 35) (lb := #[]) rfl trivial (enters_of Tryd.func35 (by kernel_rfl) rfl) (X := fun k => w.heap.size ≤ k ∧ k < w.heap.size + 3) (encs := fun r : IRow => #[rowV r])
    (seqUntil_rows 8 B W0 hBl (by omega) _ (by rintro k ⟨_, _⟩; omega)) (Below.refl _ _) (fun _ => rfl)
    (fun pre W => Blk W w.heap.size 23 #[.int .u8 15, .int .i32 arg] ∧ (∃ q, Blk W (w.heap.size + 1) 40 (rowC q)) ∧ Blk W (w.heap.size + 2) 4 #[.bool false] ∧ Below w.heap.size w W ∧ ∀ q ∈ pre, (q.arg : Int) ≠ arg)
    (fun c pre W => c = .exit 0 ∧ ∃ pre' q, pre = pre' ++ [q] ∧ (∀ q ∈ pre', (q.arg : Int) ≠ arg) ∧ (q.arg : Int) = arg ∧ Blk W (w.heap.size + 1) 40 (rowC q) ∧ Blk W (w.heap.size + 2) 4 #[.bool true] ∧ Below w.heap.size w W)
    ?deep ?deepx ⟨b1, ⟨_, b2⟩, b3, kB, by simp⟩ ?round ?done ?stop)
  case deep => exact fun s A B ⟨h1, ⟨q, h2⟩, h3, h4, h5⟩ k => ⟨h1.below k (by omega), ⟨q, h2.below k (by omega)⟩, h3.below k (by omega), h4.trans (k.mono (by omega)), h5⟩
  case deepx => exact fun c s A B ⟨h1, p, q, e1, e2, e3, h2, h3, h4⟩ k => ⟨h1, p, q, e1, e2, e3, h2.below k (by omega), h3.below k (by omega), h4.trans (k.mono (by omega))⟩
  case round =>
    clear b1 b2 b3 kB
    rintro l pre x r W ⟨b1, ⟨q, b2⟩, b3, kB, hno⟩ hxs hsW
    have hV : rowV x = .agg #[.int .i32 x.arg, .string (strB x.name), .int .i64 x.takes, .int .i64 x.leaves] := rfl
    rw [hV]
    have hC : rowC x = #[.int .i32 x.arg, .string (strB x.name), .int .i64 x.takes, .int .i64 x.leaves] := rfl
    have HC := Lib.hid hC
    clear hV hC
    generalize strB x.name = NM at *
    generalize x.takes = dt at *
    generalize x.leaves = dl at *
    generalize hxa : x.arg = xa at *
    have HXA := Lib.hid hxa
    have HXS := Lib.hid hxs
    clear hxa hxs
    have b2' : Blk W (w.heap.size + 1) 40 #[.int .i32 q.arg, .string (strB q.name), .int .i64 q.takes, .int .i64 q.leaves] := b2
    have e20 := b2'.cell 0
    have e21 := b2'.cell 1
    have e22 := b2'.cell 2
    have e23 := b2'.cell 3
    simp at e20 e21 e22 e23
    have f20 := b2.frozen 0
    have f21 := b2.frozen 1
    have f22 := b2.frozen 2
    have f23 := b2.frozen 3
    have l2 := b2.lt
    gi_wp2
    have b2n : Blk ((((W.setCell ⟨w.heap.size + 1, 0, none⟩ (.int .i32 xa)).setCell ⟨w.heap.size + 1, 1, none⟩ (.string NM)).setCell ⟨w.heap.size + 1, 2, none⟩ (.int .i64 dt)).setCell ⟨w.heap.size + 1, 3, none⟩ (.int .i64 dl)) (w.heap.size + 1) 40 #[.int .i32 xa, .string NM, .int .i64 dt, .int .i64 dl] := by
      have h := (((b2'.set_ 0 (.int .i32 xa)).set_ 1 (.string NM)).set_ 2 (.int .i64 dt)).set_ 3 (.int .i64 dl)
      simpa using h
    have b1n := (((b1.far (p := ⟨w.heap.size + 1, 0, none⟩) (by simp) (.int .i32 xa)).far (p := ⟨w.heap.size + 1, 1, none⟩) (by simp) (.string NM)).far (p := ⟨w.heap.size + 1, 2, none⟩) (by simp) (.int .i64 dt)).far (p := ⟨w.heap.size + 1, 3, none⟩) (by simp) (.int .i64 dl)
    have b3n := (((b3.far (p := ⟨w.heap.size + 1, 0, none⟩) (by simp) (.int .i32 xa)).far (p := ⟨w.heap.size + 1, 1, none⟩) (by simp) (.string NM)).far (p := ⟨w.heap.size + 1, 2, none⟩) (by simp) (.int .i64 dt)).far (p := ⟨w.heap.size + 1, 3, none⟩) (by simp) (.int .i64 dl)
    have kBn : Below w.heap.size w ((((W.setCell ⟨w.heap.size + 1, 0, none⟩ (.int .i32 xa)).setCell ⟨w.heap.size + 1, 1, none⟩ (.string NM)).setCell ⟨w.heap.size + 1, 2, none⟩ (.int .i64 dt)).setCell ⟨w.heap.size + 1, 3, none⟩ (.int .i64 dl)) := (((kB.setCell (by simp) _).setCell (by simp) _).setCell (by simp) _).setCell (by simp) _
    refine ⟨(((KeepC.set _ _ (by simp) _).trans (KeepC.set _ _ (by simp) _)).trans (KeepC.set _ _ (by simp) _)).trans (KeepC.set _ _ (by simp) _), (((KeepsOthers.setCell _ _ _).trans (KeepsOthers.setCell _ _ _)).trans (KeepsOthers.setCell _ _ _)).trans (KeepsOthers.setCell _ _ _), ?_⟩
    obtain ⟨Wn, hWn⟩ : ∃ Wn, ((((W.setCell ⟨w.heap.size + 1, 0, none⟩ (.int .i32 xa)).setCell ⟨w.heap.size + 1, 1, none⟩ (.string NM)).setCell ⟨w.heap.size + 1, 2, none⟩ (.int .i64 dt)).setCell ⟨w.heap.size + 1, 3, none⟩ (.int .i64 dl)) = Wn := ⟨_, rfl⟩
    have hszn : W.heap.size = Wn.heap.size := by rw [← hWn]; simp
    rw [hWn] at b1n b2n b3n kBn ⊢
    clear hWn b1 b2 b2' b3 kB e20 e21 e22 e23 f20 f21 f22 f23
    rintro W2 hgr ⟨hl0, hl1⟩
    have hne : ∀ k, k < w.heap.size + 3 → some k ≠ some l := fun k hk e => by injection e; omega
    have b1 := b1n.grown hgr (hne _ (by omega))
    have b2 := b2n.grown hgr (hne _ (by omega))
    have b3 := b3n.grown hgr (hne _ (by omega))
    have kB : Below w.heap.size w W2 := kBn.grown hgr (by omega) (fun k e => by injection e; omega)
    clear b1n b2n b3n kBn hgr
    have c10 := b1.cell 0
    have c11 := b1.cell 1
    simp at c10 c11
    have e20 := b2.cell 0
    have e21 := b2.cell 1
    have e22 := b2.cell 2
    have e23 := b2.cell 3
    simp at e20 e21 e22 e23
    have c3 := b3.cell 0
    have f3 := b3.frozen 0
    simp at c3
    cases hm : ((xa : Int) == arg)
    · have hne2 : (x.arg : Int) ≠ arg := by rw [HXA.out]; simpa using hm
      have HN := Lib.hid (fun q hq => hno q hq)
      have HE := Lib.hid hne2
      clear hno hne2
      gi_wp2
      refine ⟨KeepC.refl _ _, KeepsOthers.refl _, b1, ⟨x, by rw [HC.out]; exact b2⟩, b3, kB, ?_⟩
      intro q hq
      rcases List.mem_append.1 hq with h | h
      · exact HN.out q h
      · rw [List.mem_singleton.1 h]; exact HE.out
    · have hne2 : (x.arg : Int) = arg := by rw [HXA.out]; simpa using hm
      have HN := Lib.hid (fun q hq => hno q hq)
      have HE := Lib.hid hne2
      clear hno hne2
      gi_wp2
      refine ⟨KeepsOthers.setCell _ _ _, rfl, pre, x, rfl, HN.out, HE.out, ?_, ?_, kB.setCell (by simp <;> omega) _⟩
      · rw [HC.out]; exact b2.far (by simp) _
      · exact b3.set_ 0 (.bool true)
  case done =>
    clear b1 b2 b3 kB
    rintro D W ⟨b1, ⟨q, b2⟩, b3, kB, hno⟩ hK hD
    have hnone : findI 15 arg = none := by
      rw [HF.out, List.find?_eq_none]
      intro q hq
      simpa using hno q hq
    have HNO := Lib.hid hnone
    clear hnone hno
    have b2' : Blk W (w.heap.size + 1) 40 #[.int .i32 q.arg, .string (strB q.name), .int .i64 q.takes, .int .i64 q.leaves] := b2
    have e20 := b2'.cell 0
    have e21 := b2'.cell 1
    have e22 := b2'.cell 2
    have e23 := b2'.cell 3
    simp at e20 e21 e22 e23
    have f20 := b2.frozen 0
    have f21 := b2.frozen 1
    have f22 := b2.frozen 2
    have f23 := b2.frozen 3
    have c3 := b3.cell 0
    have f3 := b3.frozen 0
    simp at c3
    go_wp2
    have b2n : Blk (((((W.setCell ⟨w.heap.size + 1, 0, none⟩ (.int .i32 0)).setCell ⟨w.heap.size + 1, 1, none⟩ (.string ⟨#[]⟩)).setCell ⟨w.heap.size + 1, 2, none⟩ (.int .i64 0)).setCell ⟨w.heap.size + 1, 3, none⟩ (.int .i64 0)).setCell ⟨w.heap.size + 1 + 1, 0, none⟩ (.bool false)) (w.heap.size + 1) 40 #[.int .i32 0, .string ⟨#[]⟩, .int .i64 0, .int .i64 0] := by
      have h := ((((b2'.set_ 0 (.int .i32 0)).set_ 1 (.string ⟨#[]⟩)).set_ 2 (.int .i64 0)).set_ 3 (.int .i64 0)).far (p := ⟨w.heap.size + 1 + 1, 0, none⟩) (by simp) (.bool false)
      simpa using h
    have b3n : Blk (((((W.setCell ⟨w.heap.size + 1, 0, none⟩ (.int .i32 0)).setCell ⟨w.heap.size + 1, 1, none⟩ (.string ⟨#[]⟩)).setCell ⟨w.heap.size + 1, 2, none⟩ (.int .i64 0)).setCell ⟨w.heap.size + 1, 3, none⟩ (.int .i64 0)).setCell ⟨w.heap.size + 1 + 1, 0, none⟩ (.bool false)) (w.heap.size + 1 + 1) 4 #[.bool false] := by
      have h := ((((b3.far (p := ⟨w.heap.size + 1, 0, none⟩) (by simp) (.int .i32 0)).far (p := ⟨w.heap.size + 1, 1, none⟩) (by simp) (.string ⟨#[]⟩)).far (p := ⟨w.heap.size + 1, 2, none⟩) (by simp) (.int .i64 0)).far (p := ⟨w.heap.size + 1, 3, none⟩) (by simp) (.int .i64 0)).set_ 0 (.bool false)
      simpa using h
    have kBn : Below w.heap.size w (((((W.setCell ⟨w.heap.size + 1, 0, none⟩ (.int .i32 0)).setCell ⟨w.heap.size + 1, 1, none⟩ (.string ⟨#[]⟩)).setCell ⟨w.heap.size + 1, 2, none⟩ (.int .i64 0)).setCell ⟨w.heap.size + 1, 3, none⟩ (.int .i64 0)).setCell ⟨w.heap.size + 1 + 1, 0, none⟩ (.bool false)) := ((((kB.setCell (by simp) _).setCell (by simp) _).setCell (by simp) _).setCell (by simp) _).setCell (by simp <;> omega) _
    have hKn : (((((W.setCell ⟨w.heap.size + 1, 0, none⟩ (.int .i32 0)).setCell ⟨w.heap.size + 1, 1, none⟩ (.string ⟨#[]⟩)).setCell ⟨w.heap.size + 1, 2, none⟩ (.int .i64 0)).setCell ⟨w.heap.size + 1, 3, none⟩ (.int .i64 0)).setCell ⟨w.heap.size + 1 + 1, 0, none⟩ (.bool false)).heap[D]? = some (.deferred (some [])) := by
      have hn : ∀ (A : World) (p : Addr) (v : Value), p.block < W0.heap.size → A.heap[D]? = some (.deferred (some [])) → (A.setCell p v).heap[D]? = some (.deferred (some [])) := fun A p v hp h => (Below.heap_setCell A p v D (by omega)).trans h
      exact hn _ _ _ (by simp <;> omega) (hn _ _ _ (by simp <;> omega) (hn _ _ _ (by simp <;> omega) (hn _ _ _ (by simp <;> omega) (hn _ _ _ (by simp <;> omega) hK))))
    rw [Exit.noGoto_ret]
    generalize (((((W.setCell ⟨w.heap.size + 1, 0, none⟩ (.int .i32 0)).setCell ⟨w.heap.size + 1, 1, none⟩ (.string ⟨#[]⟩)).setCell ⟨w.heap.size + 1, 2, none⟩ (.int .i64 0)).setCell ⟨w.heap.size + 1, 3, none⟩ (.int .i64 0)).setCell ⟨w.heap.size + 1 + 1, 0, none⟩ (.bool false)) = Wf at *
    clear b2 b2' b3 kB e20 e21 e22 e23 f20 f21 f22 f23 c3 f3 hK c0
    refine ⟨by simp, .inl ⟨_, _, rfl, run_takeDeferred hKn, ?_⟩⟩
    have b2f : ∀ o, Blk (Wf.putObj D o) (w.heap.size + 1) 40 #[.int .i32 0, .string ⟨#[]⟩, .int .i64 0, .int .i64 0] := fun o => (World.putObj_heap_other (by omega)).trans b2n
    have b3f : ∀ o, Blk (Wf.putObj D o) (w.heap.size + 1 + 1) 4 #[.bool false] := fun o => (World.putObj_heap_other (by omega)).trans b3n
    have e0 := fun o => (b2f o).cell 0
    have e1 := fun o => (b2f o).cell 1
    have e2 := fun o => (b2f o).cell 2
    have e3 := fun o => (b2f o).cell 3
    have e4 := fun o => (b3f o).cell 0
    simp at e0 e1 e2 e3 e4
    refine ⟨.tuple #[.agg #[.int .i32 0, .string ⟨#[]⟩, .int .i64 0, .int .i64 0], .bool false], by simp [results, Tryd.results15, go_sem, e0, e1, e2, e3, e4], ?_⟩
    exact ⟨by rw [HNO.out]; rfl, kBn.putObj (by omega) _⟩
  case stop =>
    clear b1 b2 b3 kB
    rintro D c pre x r W hxs ⟨rfl, pre', q, hpq, hno, hyes, b2, b3, kB⟩ hK hD
    refine wpIn_wide.2 ?_
    have b2' : Blk W (w.heap.size + 1) 40 #[.int .i32 q.arg, .string (strB q.name), .int .i64 q.takes, .int .i64 q.leaves] := b2
    have e20 := b2'.cell 0
    have e21 := b2'.cell 1
    have e22 := b2'.cell 2
    have e23 := b2'.cell 3
    simp at e20 e21 e22 e23
    have f20 := b2.frozen 0
    have f21 := b2.frozen 1
    have f22 := b2.frozen 2
    have f23 := b2.frozen 3
    have c3 := b3.cell 0
    have f3 := b3.frozen 0
    simp at c3
    have HNO := Lib.hid hno
    have HYES := Lib.hid hyes
    have HPQ := Lib.hid hpq
    have HXS := Lib.hid hxs
    clear hno hyes hpq hxs
    go_wp2
    have hsome : findI 15 arg = some q := by
      obtain ⟨rfl, hx⟩ := List.append_inj' HPQ.out rfl
      obtain rfl : x = q := by simpa using hx
      rw [HF.out, HXS.out, List.find?_append]
      have h1 : pre.find? (fun r => (r.arg : Int) == arg) = none := by
        rw [List.find?_eq_none]; intro q hq; simpa using HNO.out q hq
      rw [h1, List.find?_cons]
      have h2 : ((x.arg : Int) == arg) = true := by simpa using HYES.out
      rw [h2]; rfl
    have HSO := Lib.hid hsome
    clear hsome
    have b2n : Blk (((((W.setCell ⟨w.heap.size + 1, 0, none⟩ (.int .i32 q.arg)).setCell ⟨w.heap.size + 1, 1, none⟩ (.string (strB q.name))).setCell ⟨w.heap.size + 1, 2, none⟩ (.int .i64 q.takes)).setCell ⟨w.heap.size + 1, 3, none⟩ (.int .i64 q.leaves)).setCell ⟨w.heap.size + 1 + 1, 0, none⟩ (.bool true)) (w.heap.size + 1) 40 #[.int .i32 q.arg, .string (strB q.name), .int .i64 q.takes, .int .i64 q.leaves] := by
      have h := ((((b2'.set_ 0 (.int .i32 q.arg)).set_ 1 (.string (strB q.name))).set_ 2 (.int .i64 q.takes)).set_ 3 (.int .i64 q.leaves)).far (p := ⟨w.heap.size + 1 + 1, 0, none⟩) (by simp) (.bool true)
      simpa using h
    have b3n : Blk (((((W.setCell ⟨w.heap.size + 1, 0, none⟩ (.int .i32 q.arg)).setCell ⟨w.heap.size + 1, 1, none⟩ (.string (strB q.name))).setCell ⟨w.heap.size + 1, 2, none⟩ (.int .i64 q.takes)).setCell ⟨w.heap.size + 1, 3, none⟩ (.int .i64 q.leaves)).setCell ⟨w.heap.size + 1 + 1, 0, none⟩ (.bool true)) (w.heap.size + 1 + 1) 4 #[.bool true] := by
      have h := ((((b3.far (p := ⟨w.heap.size + 1, 0, none⟩) (by simp) (.int .i32 q.arg)).far (p := ⟨w.heap.size + 1, 1, none⟩) (by simp) (.string (strB q.name))).far (p := ⟨w.heap.size + 1, 2, none⟩) (by simp) (.int .i64 q.takes)).far (p := ⟨w.heap.size + 1, 3, none⟩) (by simp) (.int .i64 q.leaves)).set_ 0 (.bool true)
      simpa using h
    have kBn : Below w.heap.size w (((((W.setCell ⟨w.heap.size + 1, 0, none⟩ (.int .i32 q.arg)).setCell ⟨w.heap.size + 1, 1, none⟩ (.string (strB q.name))).setCell ⟨w.heap.size + 1, 2, none⟩ (.int .i64 q.takes)).setCell ⟨w.heap.size + 1, 3, none⟩ (.int .i64 q.leaves)).setCell ⟨w.heap.size + 1 + 1, 0, none⟩ (.bool true)) := ((((kB.setCell (by simp) _).setCell (by simp) _).setCell (by simp) _).setCell (by simp) _).setCell (by simp <;> omega) _
    have hKn : (((((W.setCell ⟨w.heap.size + 1, 0, none⟩ (.int .i32 q.arg)).setCell ⟨w.heap.size + 1, 1, none⟩ (.string (strB q.name))).setCell ⟨w.heap.size + 1, 2, none⟩ (.int .i64 q.takes)).setCell ⟨w.heap.size + 1, 3, none⟩ (.int .i64 q.leaves)).setCell ⟨w.heap.size + 1 + 1, 0, none⟩ (.bool true)).heap[D]? = some (.deferred (some [])) := by
      have hn : ∀ (A : World) (p : Addr) (v : Value), p.block < W0.heap.size → A.heap[D]? = some (.deferred (some [])) → (A.setCell p v).heap[D]? = some (.deferred (some [])) := fun A p v hp h => (Below.heap_setCell A p v D (by omega)).trans h
      exact hn _ _ _ (by simp <;> omega) (hn _ _ _ (by simp <;> omega) (hn _ _ _ (by simp <;> omega) (hn _ _ _ (by simp <;> omega) (hn _ _ _ (by simp <;> omega) hK))))
    rw [Exit.noGoto_ret]
    generalize (((((W.setCell ⟨w.heap.size + 1, 0, none⟩ (.int .i32 q.arg)).setCell ⟨w.heap.size + 1, 1, none⟩ (.string (strB q.name))).setCell ⟨w.heap.size + 1, 2, none⟩ (.int .i64 q.takes)).setCell ⟨w.heap.size + 1, 3, none⟩ (.int .i64 q.leaves)).setCell ⟨w.heap.size + 1 + 1, 0, none⟩ (.bool true)) = Wf at *
    clear b2 b2' b3 kB e20 e21 e22 e23 f20 f21 f22 f23 c3 f3 hK c0
    refine ⟨by simp, .inl ⟨_, _, rfl, run_takeDeferred hKn, ?_⟩⟩
    have b2f : ∀ o, Blk (Wf.putObj D o) (w.heap.size + 1) 40 #[.int .i32 q.arg, .string (strB q.name), .int .i64 q.takes, .int .i64 q.leaves] := fun o => (World.putObj_heap_other (by omega)).trans b2n
    have b3f : ∀ o, Blk (Wf.putObj D o) (w.heap.size + 1 + 1) 4 #[.bool true] := fun o => (World.putObj_heap_other (by omega)).trans b3n
    have e0 := fun o => (b2f o).cell 0
    have e1 := fun o => (b2f o).cell 1
    have e2 := fun o => (b2f o).cell 2
    have e3 := fun o => (b2f o).cell 3
    have e4 := fun o => (b3f o).cell 0
    simp at e0 e1 e2 e3 e4
    refine ⟨.tuple #[.agg #[.int .i32 q.arg, .string (strB q.name), .int .i64 q.takes, .int .i64 q.leaves], .bool true], by simp [results, Tryd.results15, go_sem, e0, e1, e2, e3, e4], ?_⟩
    exact ⟨by rw [HSO.out]; rfl, kBn.putObj (by omega) _⟩
theorem pFind (fn arg : Int) (hf : 0 ≤ fn ∧ fn ≤ 255) (B : Nat) (w : World) (hL : Laid5 B w) (hB : B ≤ w.heap.size) :
    Calls Tryd.prog 15 #[.agg #[.int .u8 fn, .int .i32 arg]] w (RetV (rowP (findI fn arg)) w) := by
  obtain ⟨n, rfl⟩ := Int.eq_ofNat_of_zero_le hf.1
  by_cases h15 : n = 15
  · subst h15; exact pFindO arg B w hL hB
  · cases h : findI (n : Int) arg with
    | none => rw [← h]; exact pFindN n arg (by omega) h15 h w hL.fns
    | some r =>
      obtain ⟨hm, hc⟩ := findI_some h
      rcases hc with ⟨e, _⟩ | ⟨_, e2, _⟩
      · omega
      · have hmF : r ∈ tabF := by
          rcases List.mem_append.1 hm with h1 | h1
          · exact h1
          · have := (tabO_ok r h1).1; omega
        rw [← h]; exact pFindF n arg r hmF (by omega) w hL.fns
end Go.Proofs.YtaakhhnlmldegaaDoor
