/- Texts that belong together, joined: what each one holds is told ahead of it. -/
import Derived.Test.YtljeecocbcffcaaDoorHK3
import Derived.Laws.Rows
import Derived.Test.YtljeecocbcffcaaDoorHK1
/- The program's row of an operation: a range over the rows, left at the first that fits. -/
namespace Go.Proofs.YtljeecocbcffcaaDoor
open Go.RowKit Go.Shelf
attribute [local go_sem] Oper.semAt_some

theorem seqUntil_rows (n B : Nat) (w : World) (hBl : Blanks B w) (hB : B ≤ w.heap.size) (X : Nat → Prop) (hX : ∀ k, X k → k < w.heap.size) :
    SeqUntil Fence.wide n Tryd.prog 94 #[] (fun r : IRow => #[rowV r]) X tabO w := rows_iter n X w hX B hBl hB
def rowC (r : IRow) : Array Value := #[.int .i32 r.arg, .string (strB r.name), .int .i64 r.takes, .int .i64 r.leaves]
set_option maxRecDepth 100000 in
set_option maxHeartbeats 2000000 in
theorem pFindO (arg : Int) (B : Nat) (w : World) (hL : Laid5 B w) (hB : B ≤ w.heap.size) :
    Calls Tryd.prog 87 #[.agg #[.int .u8 15, .int .i32 arg]] w (RetV (rowP (findI 15 arg)) w) := by
  have hF : findI 15 arg = tabO.find? fun r => (r.arg : Int) == arg := by unfold findI; rw [if_pos rfl]
  have HF := Lib.hid hF
  have c0 : w.cell? ⟨0, 15, none⟩ = some (.string ⟨#[]⟩) := hL.fns.cell rfl
  have hg' : 0 < w.heap.size := hL.fns.lt
  have HL := Lib.hid hL
  clear hF hL
  refine (callsIn_wide (n := 9)).1 ?_
  refine callsIn_of_wp_marks Tryd.func87 rfl trivial ?_ rfl
  refine wpIn_wide.2 ?_
  simp only [Tryd.ntmps87, List.size_toArray, List.length_cons, List.length_nil, Nat.reduceAdd, Nat.reduceSub, Array.replicate_succ, Array.replicate_zero, List.push_toArray, List.append_toArray, List.nil_append, List.cons_append]
  go_wp2
  go_step3
  go_wp2
  go_step3
  go_wp2_with (go_at_call 84; refine (irows _).mono ?_; rintro e w' ⟨rfl, rfl⟩)
  obtain ⟨W0, hW0⟩ : ∃ W0, ((w.alloc (Obj.cells #[.int .u8 15, .int .i32 arg] 59)).alloc (Obj.cells #[.int .i32 0, .string ⟨#[]⟩, .int .i64 0, .int .i64 0] 132)).alloc (Obj.cells #[.bool false] 4) = W0 := ⟨_, rfl⟩
  have b1 : Blk W0 w.heap.size 59 #[.int .u8 15, .int .i32 arg] := by rw [← hW0]; exact ((Blk.new w _ _).alloc _).alloc _
  have b2 : Blk W0 (w.heap.size + 1) 132 (rowC irow0) := by
    rw [← hW0]; have h := (Blk.new (w.alloc (Obj.cells #[.int .u8 15, .int .i32 arg] 59)) 132 (rowC irow0)).alloc (Obj.cells #[.bool false] 4); rwa [World.size_alloc] at h
  have b3 : Blk W0 (w.heap.size + 2) 4 #[.bool false] := by
    rw [← hW0]; have h := Blk.new ((w.alloc (Obj.cells #[.int .u8 15, .int .i32 arg] 59)).alloc (Obj.cells #[.int .i32 0, .string ⟨#[]⟩, .int .i64 0, .int .i64 0] 132)) 4 #[.bool false]; rwa [World.size_alloc, World.size_alloc] at h
  have kB : Below w.heap.size w W0 := by rw [← hW0]; exact (((Below.refl _ w).alloc (Nat.le_refl _) _).alloc (by simp) _).alloc (by simp <;> omega) _
  have hsz : W0.heap.size = w.heap.size + 3 := by rw [← hW0]; simp
  rw [hW0]
  clear hW0
  have hBl : Blanks B W0 := (HL.out.on (kB.mono hB)).2.1
  refine wpIn_wide.1 (wpIn_range_until (F := Fence.wide) (n := 9) rfl rfl (gf := 94) (lb := #[]) rfl trivial (enters_of Tryd.func94 (by kernel_rfl) rfl) (X := fun k => w.heap.size ≤ k ∧ k < w.heap.size + 3) (encs := fun r : IRow => #[rowV r])
    (seqUntil_rows 8 B W0 hBl (by omega) _ (by rintro k ⟨_, _⟩; omega)) (Below.refl _ _) (fun _ => rfl)
    (fun pre W => Blk W w.heap.size 59 #[.int .u8 15, .int .i32 arg] ∧ (∃ q, Blk W (w.heap.size + 1) 132 (rowC q)) ∧ Blk W (w.heap.size + 2) 4 #[.bool false] ∧ Below w.heap.size w W ∧ ∀ q ∈ pre, (q.arg : Int) ≠ arg)
    (fun c pre W => c = .exit 0 ∧ ∃ pre' q, pre = pre' ++ [q] ∧ (∀ q ∈ pre', (q.arg : Int) ≠ arg) ∧ (q.arg : Int) = arg ∧ Blk W (w.heap.size + 1) 132 (rowC q) ∧ Blk W (w.heap.size + 2) 4 #[.bool true] ∧ Below w.heap.size w W)
    ?deep ?deepx ⟨b1, ⟨_, b2⟩, b3, kB, by simp⟩ ?round ?done ?stop)
  case deep => exact fun s A B ⟨h1, ⟨q, h2⟩, h3, h4, h5⟩ k => ⟨h1.below k (by omega), ⟨q, h2.below k (by omega)⟩, h3.below k (by omega), h4.trans (k.mono (by omega)), h5⟩
  case deepx => exact fun c s A B ⟨h1, p, q, e1, e2, e3, h2, h3, h4⟩ k => ⟨h1, p, q, e1, e2, e3, h2.below k (by omega), h3.below k (by omega), h4.trans (k.mono (by omega))⟩
  case round =>
    clear b1 b2 b3 kB
    rintro l pre x r W ⟨b1, ⟨q, b2⟩, b3, kB, hno⟩ hxs hsW
    have hV : rowV x = .agg #[.int .i32 x.arg, .string (strB x.name), .int .i64 x.takes, .int .i64 x.leaves] := rfl
    rw [hV]
    have hC : rowC x = #[.int .i32 x.arg, .string (strB x.name), .int .i64 x.takes, .int .i64 x.leaves] := rfl
    have HC := Lib.hid hC
    clear hV hC
    generalize strB x.name = NM at *
    generalize x.takes = dt at *
    generalize x.leaves = dl at *
    generalize hxa : x.arg = xa at *
    have HXA := Lib.hid hxa
    have HXS := Lib.hid hxs
    clear hxa hxs
    have b2' : Blk W (w.heap.size + 1) 132 #[.int .i32 q.arg, .string (strB q.name), .int .i64 q.takes, .int .i64 q.leaves] := b2
    have e20 := b2'.cell 0
    have e21 := b2'.cell 1
    have e22 := b2'.cell 2
    have e23 := b2'.cell 3
    simp at e20 e21 e22 e23
    have f20 := b2.frozen 0
    have f21 := b2.frozen 1
    have f22 := b2.frozen 2
    have f23 := b2.frozen 3
    have l2 := b2.lt
    gi_wp2
    have b2n : Blk ((((W.setCell ⟨w.heap.size + 1, 0, none⟩ (.int .i32 xa)).setCell ⟨w.heap.size + 1, 1, none⟩ (.string NM)).setCell ⟨w.heap.size + 1, 2, none⟩ (.int .i64 dt)).setCell ⟨w.heap.size + 1, 3, none⟩ (.int .i64 dl)) (w.heap.size + 1) 132 #[.int .i32 xa, .string NM, .int .i64 dt, .int .i64 dl] := by
      have h := (((b2'.set_ 0 (.int .i32 xa)).set_ 1 (.string NM)).set_ 2 (.int .i64 dt)).set_ 3 (.int .i64 dl)
      simpa using h
    have b1n := (((b1.far (p := ⟨w.heap.size + 1, 0, none⟩) (by simp) (.int .i32 xa)).far (p := ⟨w.heap.size + 1, 1, none⟩) (by simp) (.string NM)).far (p := ⟨w.heap.size + 1, 2, none⟩) (by simp) (.int .i64 dt)).far (p := ⟨w.heap.size + 1, 3, none⟩) (by simp) (.int .i64 dl)
    have b3n := (((b3.far (p := ⟨w.heap.size + 1, 0, none⟩) (by simp) (.int .i32 xa)).far (p := ⟨w.heap.size + 1, 1, none⟩) (by simp) (.string NM)).far (p := ⟨w.heap.size + 1, 2, none⟩) (by simp) (.int .i64 dt)).far (p := ⟨w.heap.size + 1, 3, none⟩) (by simp) (.int .i64 dl)
    have kBn : Below w.heap.size w ((((W.setCell ⟨w.heap.size + 1, 0, none⟩ (.int .i32 xa)).setCell ⟨w.heap.size + 1, 1, none⟩ (.string NM)).setCell ⟨w.heap.size + 1, 2, none⟩ (.int .i64 dt)).setCell ⟨w.heap.size + 1, 3, none⟩ (.int .i64 dl)) := (((kB.setCell (by simp) _).setCell (by simp) _).setCell (by simp) _).setCell (by simp) _
    refine ⟨(((KeepC.set _ _ (by simp) _).trans (KeepC.set _ _ (by simp) _)).trans (KeepC.set _ _ (by simp) _)).trans (KeepC.set _ _ (by simp) _), (((KeepsOthers.setCell _ _ _).trans (KeepsOthers.setCell _ _ _)).trans (KeepsOthers.setCell _ _ _)).trans (KeepsOthers.setCell _ _ _), ?_⟩
    obtain ⟨Wn, hWn⟩ : ∃ Wn, ((((W.setCell ⟨w.heap.size + 1, 0, none⟩ (.int .i32 xa)).setCell ⟨w.heap.size + 1, 1, none⟩ (.string NM)).setCell ⟨w.heap.size + 1, 2, none⟩ (.int .i64 dt)).setCell ⟨w.heap.size + 1, 3, none⟩ (.int .i64 dl)) = Wn := ⟨_, rfl⟩
    have hszn : W.heap.size = Wn.heap.size := by rw [← hWn]; simp
    rw [hWn] at b1n b2n b3n kBn ⊢
    clear hWn b1 b2 b2' b3 kB e20 e21 e22 e23 f20 f21 f22 f23
    rintro W2 hgr ⟨hl0, hl1⟩
    have hne : ∀ k, k < w.heap.size + 3 → some k ≠ some l := fun k hk e => by injection e; omega
    have b1 := b1n.grown hgr (hne _ (by omega))
    have b2 := b2n.grown hgr (hne _ (by omega))
    have b3 := b3n.grown hgr (hne _ (by omega))
    have kB : Below w.heap.size w W2 := kBn.grown hgr (by omega) (fun k e => by injection e; omega)
    clear b1n b2n b3n kBn hgr
    have c10 := b1.cell 0
    have c11 := b1.cell 1
    simp at c10 c11
    have e20 := b2.cell 0
    have e21 := b2.cell 1
    have e22 := b2.cell 2
    have e23 := b2.cell 3
    simp at e20 e21 e22 e23
    have c3 := b3.cell 0
    have f3 := b3.frozen 0
    simp at c3
    cases hm : ((xa : Int) == arg)
    · have hne2 : (x.arg : Int) ≠ arg := by rw [HXA.out]; simpa using hm
      have HN := Lib.hid (fun q hq => hno q hq)
      have HE := Lib.hid hne2
      clear hno hne2
      gi_wp2
      refine ⟨KeepC.refl _ _, KeepsOthers.refl _, b1, ⟨x, by rw [HC.out]; exact b2⟩, b3, kB, ?_⟩
      intro q hq
      rcases List.mem_append.1 hq with h | h
      · exact HN.out q h
      · rw [List.mem_singleton.1 h]; exact HE.out
    · have hne2 : (x.arg : Int) = arg := by rw [HXA.out]; simpa using hm
      have HN := Lib.hid (fun q hq => hno q hq)
      have HE := Lib.hid hne2
      clear hno hne2
      gi_wp2
      refine ⟨KeepsOthers.setCell _ _ _, rfl, pre, x, rfl, HN.out, HE.out, ?_, ?_, kB.setCell (by simp <;> omega) _⟩
      · rw [HC.out]; exact b2.far (by simp) _
      · exact b3.set_ 0 (.bool true)
  case done =>
    clear b1 b2 b3 kB
    rintro D W ⟨b1, ⟨q, b2⟩, b3, kB, hno⟩ hK hD
    have hnone : findI 15 arg = none := by
      rw [HF.out, List.find?_eq_none]
      intro q hq
      simpa using hno q hq
    have HNO := Lib.hid hnone
    clear hnone hno
    have b2' : Blk W (w.heap.size + 1) 132 #[.int .i32 q.arg, .string (strB q.name), .int .i64 q.takes, .int .i64 q.leaves] := b2
    have e20 := b2'.cell 0
    have e21 := b2'.cell 1
    have e22 := b2'.cell 2
    have e23 := b2'.cell 3
    simp at e20 e21 e22 e23
    have f20 := b2.frozen 0
    have f21 := b2.frozen 1
    have f22 := b2.frozen 2
    have f23 := b2.frozen 3
    have c3 := b3.cell 0
    have f3 := b3.frozen 0
    simp at c3
    go_wp2
    have b2n : Blk (((((W.setCell ⟨w.heap.size + 1, 0, none⟩ (.int .i32 0)).setCell ⟨w.heap.size + 1, 1, none⟩ (.string ⟨#[]⟩)).setCell ⟨w.heap.size + 1, 2, none⟩ (.int .i64 0)).setCell ⟨w.heap.size + 1, 3, none⟩ (.int .i64 0)).setCell ⟨w.heap.size + 1 + 1, 0, none⟩ (.bool false)) (w.heap.size + 1) 132 #[.int .i32 0, .string ⟨#[]⟩, .int .i64 0, .int .i64 0] := by
      have h := ((((b2'.set_ 0 (.int .i32 0)).set_ 1 (.string ⟨#[]⟩)).set_ 2 (.int .i64 0)).set_ 3 (.int .i64 0)).far (p := ⟨w.heap.size + 1 + 1, 0, none⟩) (by simp) (.bool false)
      simpa using h
    have b3n : Blk (((((W.setCell ⟨w.heap.size + 1, 0, none⟩ (.int .i32 0)).setCell ⟨w.heap.size + 1, 1, none⟩ (.string ⟨#[]⟩)).setCell ⟨w.heap.size + 1, 2, none⟩ (.int .i64 0)).setCell ⟨w.heap.size + 1, 3, none⟩ (.int .i64 0)).setCell ⟨w.heap.size + 1 + 1, 0, none⟩ (.bool false)) (w.heap.size + 1 + 1) 4 #[.bool false] := by
      have h := ((((b3.far (p := ⟨w.heap.size + 1, 0, none⟩) (by simp) (.int .i32 0)).far (p := ⟨w.heap.size + 1, 1, none⟩) (by simp) (.string ⟨#[]⟩)).far (p := ⟨w.heap.size + 1, 2, none⟩) (by simp) (.int .i64 0)).far (p := ⟨w.heap.size + 1, 3, none⟩) (by simp) (.int .i64 0)).set_ 0 (.bool false)
      simpa using h
    have kBn : Below w.heap.size w (((((W.setCell ⟨w.heap.size + 1, 0, none⟩ (.int .i32 0)).setCell ⟨w.heap.size + 1, 1, none⟩ (.string ⟨#[]⟩)).setCell ⟨w.heap.size + 1, 2, none⟩ (.int .i64 0)).setCell ⟨w.heap.size + 1, 3, none⟩ (.int .i64 0)).setCell ⟨w.heap.size + 1 + 1, 0, none⟩ (.bool false)) := ((((kB.setCell (by simp) _).setCell (by simp) _).setCell (by simp) _).setCell (by simp) _).setCell (by simp <;> omega) _
    have hKn : (((((W.setCell ⟨w.heap.size + 1, 0, none⟩ (.int .i32 0)).setCell ⟨w.heap.size + 1, 1, none⟩ (.string ⟨#[]⟩)).setCell ⟨w.heap.size + 1, 2, none⟩ (.int .i64 0)).setCell ⟨w.heap.size + 1, 3, none⟩ (.int .i64 0)).setCell ⟨w.heap.size + 1 + 1, 0, none⟩ (.bool false)).heap[D]? = some (.deferred (some [])) := by
      have hn : ∀ (A : World) (p : Addr) (v : Value), p.block < W0.heap.size → A.heap[D]? = some (.deferred (some [])) → (A.setCell p v).heap[D]? = some (.deferred (some [])) := fun A p v hp h => (Below.heap_setCell A p v D (by omega)).trans h
      exact hn _ _ _ (by simp <;> omega) (hn _ _ _ (by simp <;> omega) (hn _ _ _ (by simp <;> omega) (hn _ _ _ (by simp <;> omega) (hn _ _ _ (by simp <;> omega) hK))))
    rw [Exit.noGoto_ret]
    generalize (((((W.setCell ⟨w.heap.size + 1, 0, none⟩ (.int .i32 0)).setCell ⟨w.heap.size + 1, 1, none⟩ (.string ⟨#[]⟩)).setCell ⟨w.heap.size + 1, 2, none⟩ (.int .i64 0)).setCell ⟨w.heap.size + 1, 3, none⟩ (.int .i64 0)).setCell ⟨w.heap.size + 1 + 1, 0, none⟩ (.bool false)) = Wf at *
    clear b2 b2' b3 kB e20 e21 e22 e23 f20 f21 f22 f23 c3 f3 hK c0
    refine ⟨by simp, .inl ⟨_, _, rfl, run_takeDeferred hKn, ?_⟩⟩
    have b2f : ∀ o, Blk (Wf.putObj D o) (w.heap.size + 1) 132 #[.int .i32 0, .string ⟨#[]⟩, .int .i64 0, .int .i64 0] := fun o => (World.putObj_heap_other (by omega)).trans b2n
    have b3f : ∀ o, Blk (Wf.putObj D o) (w.heap.size + 1 + 1) 4 #[.bool false] := fun o => (World.putObj_heap_other (by omega)).trans b3n
    have e0 := fun o => (b2f o).cell 0
    have e1 := fun o => (b2f o).cell 1
    have e2 := fun o => (b2f o).cell 2
    have e3 := fun o => (b2f o).cell 3
    have e4 := fun o => (b3f o).cell 0
    simp at e0 e1 e2 e3 e4
    refine ⟨.tuple #[.agg #[.int .i32 0, .string ⟨#[]⟩, .int .i64 0, .int .i64 0], .bool false], by simp [results, Tryd.results87, go_sem, e0, e1, e2, e3, e4], ?_⟩
    exact ⟨by rw [HNO.out]; rfl, kBn.putObj (by omega) _⟩
  case stop =>
    clear b1 b2 b3 kB
    rintro D c pre x r W hxs ⟨rfl, pre', q, hpq, hno, hyes, b2, b3, kB⟩ hK hD
    refine wpIn_wide.2 ?_
    have b2' : Blk W (w.heap.size + 1) 132 #[.int .i32 q.arg, .string (strB q.name), .int .i64 q.takes, .int .i64 q.leaves] := b2
    have e20 := b2'.cell 0
    have e21 := b2'.cell 1
    have e22 := b2'.cell 2
    have e23 := b2'.cell 3
    simp at e20 e21 e22 e23
    have f20 := b2.frozen 0
    have f21 := b2.frozen 1
    have f22 := b2.frozen 2
    have f23 := b2.frozen 3
    have c3 := b3.cell 0
    have f3 := b3.frozen 0
    simp at c3
    have HNO := Lib.hid hno
    have HYES := Lib.hid hyes
    have HPQ := Lib.hid hpq
    have HXS := Lib.hid hxs
    clear hno hyes hpq hxs
    go_wp2
    have hsome : findI 15 arg = some q := by
      obtain ⟨rfl, hx⟩ := List.append_inj' HPQ.out rfl
      obtain rfl : x = q := by simpa using hx
      rw [HF.out, HXS.out, List.find?_append]
      have h1 : pre.find? (fun r => (r.arg : Int) == arg) = none := by
        rw [List.find?_eq_none]; intro q hq; simpa using HNO.out q hq
      rw [h1, List.find?_cons]
      have h2 : ((x.arg : Int) == arg) = true := by simpa using HYES.out
      rw [h2]; rfl
    have HSO := Lib.hid hsome
    clear hsome
    have b2n : Blk (((((W.setCell ⟨w.heap.size + 1, 0, none⟩ (.int .i32 q.arg)).setCell ⟨w.heap.size + 1, 1, none⟩ (.string (strB q.name))).setCell ⟨w.heap.size + 1, 2, none⟩ (.int .i64 q.takes)).setCell ⟨w.heap.size + 1, 3, none⟩ (.int .i64 q.leaves)).setCell ⟨w.heap.size + 1 + 1, 0, none⟩ (.bool true)) (w.heap.size + 1) 132 #[.int .i32 q.arg, .string (strB q.name), .int .i64 q.takes, .int .i64 q.leaves] := by
      have h := ((((b2'.set_ 0 (.int .i32 q.arg)).set_ 1 (.string (strB q.name))).set_ 2 (.int .i64 q.takes)).set_ 3 (.int .i64 q.leaves)).far (p := ⟨w.heap.size + 1 + 1, 0, none⟩) (by simp) (.bool true)
      simpa using h
    have b3n : Blk (((((W.setCell ⟨w.heap.size + 1, 0, none⟩ (.int .i32 q.arg)).setCell ⟨w.heap.size + 1, 1, none⟩ (.string (strB q.name))).setCell ⟨w.heap.size + 1, 2, none⟩ (.int .i64 q.takes)).setCell ⟨w.heap.size + 1, 3, none⟩ (.int .i64 q.leaves)).setCell ⟨w.heap.size + 1 + 1, 0, none⟩ (.bool true)) (w.heap.size + 1 + 1) 4 #[.bool true] := by
      have h := ((((b3.far (p := ⟨w.heap.size + 1, 0, none⟩) (by simp) (.int .i32 q.arg)).far (p := ⟨w.heap.size + 1, 1, none⟩) (by simp) (.string (strB q.name))).far (p := ⟨w.heap.size + 1, 2, none⟩) (by simp) (.int .i64 q.takes)).far (p := ⟨w.heap.size + 1, 3, none⟩) (by simp) (.int .i64 q.leaves)).set_ 0 (.bool true)
      simpa using h
    have kBn : Below w.heap.size w (((((W.setCell ⟨w.heap.size + 1, 0, none⟩ (.int .i32 q.arg)).setCell ⟨w.heap.size + 1, 1, none⟩ (.string (strB q.name))).setCell ⟨w.heap.size + 1, 2, none⟩ (.int .i64 q.takes)).setCell ⟨w.heap.size + 1, 3, none⟩ (.int .i64 q.leaves)).setCell ⟨w.heap.size + 1 + 1, 0, none⟩ (.bool true)) := ((((kB.setCell (by simp) _).setCell (by simp) _).setCell (by simp) _).setCell (by simp) _).setCell (by simp <;> omega) _
    have hKn : (((((W.setCell ⟨w.heap.size + 1, 0, none⟩ (.int .i32 q.arg)).setCell ⟨w.heap.size + 1, 1, none⟩ (.string (strB q.name))).setCell ⟨w.heap.size + 1, 2, none⟩ (.int .i64 q.takes)).setCell ⟨w.heap.size + 1, 3, none⟩ (.int .i64 q.leaves)).setCell ⟨w.heap.size + 1 + 1, 0, none⟩ (.bool true)).heap[D]? = some (.deferred (some [])) := by
      have hn : ∀ (A : World) (p : Addr) (v : Value), p.block < W0.heap.size → A.heap[D]? = some (.deferred (some [])) → (A.setCell p v).heap[D]? = some (.deferred (some [])) := fun A p v hp h => (Below.heap_setCell A p v D (by omega)).trans h
      exact hn _ _ _ (by simp <;> omega) (hn _ _ _ (by simp <;> omega) (hn _ _ _ (by simp <;> omega) (hn _ _ _ (by simp <;> omega) (hn _ _ _ (by simp <;> omega) hK))))
    rw [Exit.noGoto_ret]
    generalize (((((W.setCell ⟨w.heap.size + 1, 0, none⟩ (.int .i32 q.arg)).setCell ⟨w.heap.size + 1, 1, none⟩ (.string (strB q.name))).setCell ⟨w.heap.size + 1, 2, none⟩ (.int .i64 q.takes)).setCell ⟨w.heap.size + 1, 3, none⟩ (.int .i64 q.leaves)).setCell ⟨w.heap.size + 1 + 1, 0, none⟩ (.bool true)) = Wf at *
    clear b2 b2' b3 kB e20 e21 e22 e23 f20 f21 f22 f23 c3 f3 hK c0
    refine ⟨by simp, .inl ⟨_, _, rfl, run_takeDeferred hKn, ?_⟩⟩
    have b2f : ∀ o, Blk (Wf.putObj D o) (w.heap.size + 1) 132 #[.int .i32 q.arg, .string (strB q.name), .int .i64 q.takes, .int .i64 q.leaves] := fun o => (World.putObj_heap_other (by omega)).trans b2n
    have b3f : ∀ o, Blk (Wf.putObj D o) (w.heap.size + 1 + 1) 4 #[.bool true] := fun o => (World.putObj_heap_other (by omega)).trans b3n
    have e0 := fun o => (b2f o).cell 0
    have e1 := fun o => (b2f o).cell 1
    have e2 := fun o => (b2f o).cell 2
    have e3 := fun o => (b2f o).cell 3
    have e4 := fun o => (b3f o).cell 0
    simp at e0 e1 e2 e3 e4
    refine ⟨.tuple #[.agg #[.int .i32 q.arg, .string (strB q.name), .int .i64 q.takes, .int .i64 q.leaves], .bool true], by simp [results, Tryd.results87, go_sem, e0, e1, e2, e3, e4], ?_⟩
    exact ⟨by rw [HSO.out]; rfl, kBn.putObj (by omega) _⟩
theorem pFind (fn arg : Int) (hf : 0 ≤ fn ∧ fn ≤ 255) (B : Nat) (w : World) (hL : Laid5 B w) (hB : B ≤ w.heap.size) :
    Calls Tryd.prog 87 #[.agg #[.int .u8 fn, .int .i32 arg]] w (RetV (rowP (findI fn arg)) w) := by
  obtain ⟨n, rfl⟩ := Int.eq_ofNat_of_zero_le hf.1
  by_cases h15 : n = 15
  · subst h15; exact pFindO arg B w hL hB
  · cases h : findI (n : Int) arg with
    | none => rw [← h]; exact pFindN n arg (by omega) h15 h w hL.fns
    | some r =>
      obtain ⟨hm, hc⟩ := findI_some h
      rcases hc with ⟨e, _⟩ | ⟨_, e2, _⟩
      · omega
      · have hmF : r ∈ tabF := by
          rcases List.mem_append.1 hm with h1 | h1
          · exact h1
          · have := (tabO_ok r h1).1; omega
        rw [← h]; exact pFindF n arg r hmF (by omega) w hL.fns
end Go.Proofs.YtljeecocbcffcaaDoor

/- The program's Named: first the functions, then a range over the rows. -/
namespace Go.Proofs.YtljeecocbcffcaaDoor
open Go.RowKit Go.Shelf
attribute [local go_sem] Oper.semAt_some

theorem run_index_array {P : Program} (t e : TypeId) (n : Nat) (cs : Array Value) (i : Int) (v : Value) (w : World) (ht : P.underlying t = some (.array n e)) (hs : (sizeOf e).run P w = .ok 1 w) (ha : (isAgg e).run P w = .ok false w)
    (h0 : 0 ≤ i) (hn : i < n) (hp : cs[i.toNat]? = some v) : (Instr.index t (.agg cs) (.int .i64 i)).run P w = .ok v w := by
  simp [Instr.index, run_underlying ht, asIntOf, h0, hn, hs, part, ha, hp, go_sem]
theorem fn_index {k : Nat} {s : List UInt8} (h : fnL[k]? = some s) (w : World) : (Instr.index 127 (.agg fnV) (.int .i64 k)).run Tryd.prog w = .ok (.string (strB s)) w := by
  have hk : k < 16 := (List.getElem?_eq_some_iff.1 h).1
  exact run_index_array 127 9 16 fnV k _ w Tryd.underlying127 (by simp [Tryd.sizeOf9]) (by simp [Tryd.isAgg9]) (by omega) (by omega) (by simp [fnV, h])
theorem named_fn : ∀ (k : Nat), k < 16 → ∀ (s : List UInt8), fnL[k]? = some s → s ≠ [] → ∃ r ∈ tabF, r.fn = k ∧ r.name = s ∧ r.arg = 0 := by
  have h : ∀ k, k < 16 → (match fnL[k]? with | none => true | some s => s.isEmpty || tabF.any fun r => r.fn == k && r.name == s && r.arg == 0) = true := by decide
  intro k hk s hs hne
  have h1 := h k hk
  rw [hs] at h1
  simp only [Bool.or_eq_true, List.any_eq_true, Bool.and_eq_true, beq_iff_eq, List.isEmpty_iff] at h1
  rcases h1 with h1 | ⟨r, h1, ⟨h2, h3⟩, h4⟩
  · exact absurd h1 hne
  · exact ⟨r, h1, h2, h3, h4⟩
theorem named_ops {n : List UInt8} (h : ∀ (k : Nat) (s : List UInt8), fnL[k]? = some s → s ≠ [] → s ≠ n) : namedI n = tabO.find? (fun r => r.name == n) := by
  unfold namedI
  rw [List.find?_append]
  have h1 : tabF.find? (fun r => r.name == n) = none := by
    rw [List.find?_eq_none]
    intro r hr
    obtain ⟨-, -, u2, -⟩ := uses_spec r hr
    simpa using h r.fn r.name u2 (tabF_ok r hr).2.2.1
  rw [h1]; rfl
theorem str_eq_iff (l : List UInt8) (S : ByteArray) : ((strB l).toList == S.toList) = (l == S.data.toList) := by
  rw [ByteArray.toList_eq, ByteArray.toList_eq]; rfl

set_option maxRecDepth 100000 in
set_option maxHeartbeats 2000000 in
theorem pNamed (S : ByteArray) (B : Nat) (w : World) (hL : Laid5 B w) (hB : B ≤ w.heap.size) :
    Calls Tryd.prog 67 #[.string S] w (RetV (instR (namedI S.data.toList)) w) := by
  obtain ⟨tF, frF, hF⟩ := hL.fns
  have HIX := Lib.hid (fun k s (h : fnL[k]? = some s) w => fn_index h w)
  have hg' : 0 < w.heap.size := hL.fns.lt
  have HL := Lib.hid hL
  have hsz : (Tryd.prog.info? 127).map (·.size) = some fnV.size := by kernel_rfl
  have HSZ := Lib.hid hsz
  clear hL hsz
  refine (callsIn_wide (n := 9)).1 ?_
  refine callsIn_of_wp_marks Tryd.func67 rfl trivial ?_ rfl
  refine wpIn_wide.2 ?_
  simp only [Tryd.ntmps67, List.size_toArray, List.length_cons, List.length_nil, Nat.reduceAdd, Nat.reduceSub, Array.replicate_succ, Array.replicate_zero, List.push_toArray, List.append_toArray, List.nil_append, List.cons_append]
  go_upto_region 1 with (fail)
  obtain ⟨W0, hW0⟩ : ∃ W0, ((w.alloc (Obj.cells #[.string S] 9)).alloc (Obj.cells #[.int .u8 0, .int .i32 0] 59)).alloc (Obj.cells #[.bool false] 4) = W0 := ⟨_, rfl⟩
  have b1 : Blk W0 w.heap.size 9 #[.string S] := by rw [← hW0]; exact ((Blk.new w _ _).alloc _).alloc _
  have b2 : Blk W0 (w.heap.size + 1) 59 #[.int .u8 0, .int .i32 0] := by
    rw [← hW0]; have h := (Blk.new (w.alloc (Obj.cells #[.string S] 9)) 59 #[.int .u8 0, .int .i32 0]).alloc (Obj.cells #[.bool false] 4); rwa [World.size_alloc] at h
  have b3 : Blk W0 (w.heap.size + 2) 4 #[.bool false] := by
    rw [← hW0]; have h := Blk.new ((w.alloc (Obj.cells #[.string S] 9)).alloc (Obj.cells #[.int .u8 0, .int .i32 0] 59)) 4 #[.bool false]; rwa [World.size_alloc, World.size_alloc] at h
  have kB : Below w.heap.size w W0 := by rw [← hW0]; exact (((Below.refl _ w).alloc (Nat.le_refl _) _).alloc (by simp) _).alloc (by simp <;> omega) _
  have hsz : W0.heap.size = w.heap.size + 3 := by rw [← hW0]; simp
  have hF0 : W0.heap[0]? = some (.cells fnV tF frF) := (kB.block _ hg').trans hF
  rw [hW0]
  clear hW0 hF
  have hBl : Blanks B W0 := (HL.out.on (kB.mono hB)).2.1
  have HF0 := Lib.hid hF0
  have HBL := Lib.hid hBl
  clear hF0 hBl
  go_wp2_with (refine wpList_load_row rfl 127 (.global 0) rfl 0 rfl tF fnV frF _ HF0.out Tryd.underlying127 rfl HSZ.out ?_)
  generalize fnV = FV at HIX ⊢
  clear HF0 HSZ
  have c10 := b1.cell 0
  simp at c10
  have f20 := b2.frozen 0
  have f21 := b2.frozen 1
  have e20 := b2.cell 0
  have e21 := b2.cell 1
  simp at e20 e21
  have c3 := b3.cell 0
  have f3 := b3.frozen 0
  simp at c3
  go_loop [4, 5, 8] (fun _ _ i => ∃ k : Nat, k ≤ 16 ∧ i = .int .i64 k ∧ Hid (∀ (j : Nat) (s : List UInt8), j < k → fnL[j]? = some s → s ≠ [] → s ≠ S.data.toList)) (fun _ _ i => 16 - (intOf i).toNat)
  case atStart => exact ⟨0, by omega, rfl, Lib.hid (by intro j s hj; omega)⟩
  case round =>
    obtain ⟨k, hk, rfl, HN⟩ := hrel
    by_cases hlt : k < 16
    · have hltI : (k : Int) < 16 := by omega
      have hk0 : (0 : Int) ≤ k := by omega
      obtain ⟨s, hs⟩ : ∃ s, fnL[k]? = some s := ⟨_, List.getElem?_eq_getElem hlt⟩
      have hrun := HIX.out k s hs
      have HS := Lib.hid hs
      have hq := str_eq_iff s S
      by_cases hse : s = []
      · have h1 : (strB s).toList.isEmpty = true := by rw [ByteArray.toList_eq, hse]; rfl
        have HSE := Lib.hid hse
        clear hs hse hq
        generalize strB s = NM at *
        go_wp2
        go_round
        case rel => exact ⟨k + 1, by omega, by go_num, Lib.hid (by
          intro j t hj ht hne
          by_cases hjk : j < k
          · exact HN.out j t hjk ht hne
          · obtain rfl : j = k := by omega
            rw [HS.out] at ht
            exact absurd ((Option.some.inj ht).symm.trans HSE.out) hne)⟩
        case measure => simp [intOf]; omega
      · have h1 : (strB s).toList.isEmpty = false := by
          rw [ByteArray.toList_eq]
          cases h : s with
          | nil => exact absurd h hse
          | cons c l => rfl
        cases hm : (s == S.data.toList)
        · rw [hm] at hq
          have HM := Lib.hid hm
          clear hs hse hm
          generalize strB s = NM at *
          go_wp2
          go_round
          case rel => exact ⟨k + 1, by omega, by go_num, Lib.hid (by
            intro j t hj ht hne
            by_cases hjk : j < k
            · exact HN.out j t hjk ht hne
            · obtain rfl : j = k := by omega
              rw [HS.out] at ht
              obtain rfl := Option.some.inj ht
              have := HM.out
              simpa using this)⟩
          case measure => simp [intOf]; omega
        · rw [hm] at hq
          obtain ⟨r, hr, hr1, hr2, hr3⟩ := named_fn k hlt s hs hse
          have hnm : namedI S.data.toList = some r := by
            have h := named_of (List.mem_append_left tabO hr)
            rw [hr2] at h
            have e : s = S.data.toList := by simpa using hm
            rw [← e]; exact h
          have hV : instR (some r) = .tuple #[.agg #[.int .u8 k, .int .i32 0], .bool true] := by
            show Value.tuple #[.agg #[.int .u8 (r.fn : Nat), .int .i32 (r.arg : Nat)], .bool true] = _
            rw [hr1, hr3]; rfl
          have HV := Lib.hid hV
          have HNM := Lib.hid hnm
          have hw : IntKind.u8.wrap (k : Int) = (k : Int) := by rw [IntKind.wrap_u8]; omega
          clear hs hse hm hr hr1 hr2 hr3 hV hnm
          generalize strB s = NM at *
          go_wp2
          refine ⟨.tuple #[.agg #[.int .u8 k, .int .i32 0], .bool true], by simp [results, Tryd.results67, go_sem, e20, e21, c3], ?_⟩
          exact ⟨by rw [HNM.out, HV.out], ((kB.setCell (by simp) _).setCell (by simp) _).setCell (by simp <;> omega) _⟩
    · have hltI : ¬ (k : Int) < 16 := by omega
      have hops : namedI S.data.toList = tabO.find? (fun r => r.name == S.data.toList) := named_ops fun j s hs hne => HN.out j s (by have := (List.getElem?_eq_some_iff.1 hs).1; have h16 : fnL.length = 16 := rfl; omega) hs hne
      have HOPS := Lib.hid hops
      clear hops HN HIX c10 f20 f21 e20 e21 f3 c3
      go_wp2_with (go_at_call 84; refine (irows _).mono ?_; rintro e w' ⟨rfl, rfl⟩)
      refine wpIn_wide.1 (wpIn_range_until (F := Fence.wide) (n := 9) rfl rfl (gf := 94) (lb := #[]) rfl trivial (enters_of Tryd.func94 (by kernel_rfl) rfl) (X := fun k => w.heap.size ≤ k ∧ k < w.heap.size + 3) (encs := fun r : IRow => #[rowV r])
        (seqUntil_rows 8 B W0 HBL.out (by omega) _ (by rintro k ⟨_, _⟩; omega)) (Below.refl _ _) (fun _ => rfl)
        (fun pre W => Blk W w.heap.size 9 #[.string S] ∧ Blk W (w.heap.size + 1) 59 #[.int .u8 0, .int .i32 0] ∧ Blk W (w.heap.size + 2) 4 #[.bool false] ∧ Below w.heap.size w W ∧ ∀ q ∈ pre, q.name ≠ S.data.toList)
        (fun c pre W => c = .ret ∧ ∃ pre' q, pre = pre' ++ [q] ∧ (∀ q ∈ pre', q.name ≠ S.data.toList) ∧ q.name = S.data.toList ∧ Blk W (w.heap.size + 1) 59 #[.int .u8 15, .int .i32 q.arg] ∧ Blk W (w.heap.size + 2) 4 #[.bool true] ∧ Below w.heap.size w W)
        ?deep ?deepx ⟨b1, b2, b3, kB, by simp⟩ ?round ?done ?stop)
      case deep => exact fun s A B ⟨h1, h2, h3, h4, h5⟩ k => ⟨h1.below k (by omega), h2.below k (by omega), h3.below k (by omega), h4.trans (k.mono (by omega)), h5⟩
      case deepx => exact fun c s A B ⟨h1, p, q, e1, e2, e3, h2, h3, h4⟩ k => ⟨h1, p, q, e1, e2, e3, h2.below k (by omega), h3.below k (by omega), h4.trans (k.mono (by omega))⟩
      case round =>
        clear b1 b2 b3 kB
        rintro l pre x r W ⟨b1, b2, b3, kB, hno⟩ hxs hsW
        have hq := str_eq_iff x.name S
        have hV : rowV x = .agg #[.int .i32 x.arg, .string (strB x.name), .int .i64 x.takes, .int .i64 x.leaves] := rfl
        rw [hV]
        clear hV
        have HXS := Lib.hid hxs
        have HQ := Lib.hid hq
        clear hxs hq
        generalize hNM : strB x.name = NM at *
        have HNM := Lib.hid hNM
        clear hNM
        generalize x.takes = dt at *
        generalize x.leaves = dl at *
        generalize hxa : x.arg = xa at *
        have HXA := Lib.hid hxa
        clear hxa
        gi_wp2
        refine ⟨KeepC.alloc _ _ _, KeepsOthers.alloc _ _, ?_⟩
        rintro W2 hgr ⟨hl0, hl1⟩
        have hne : ∀ k, k < w.heap.size + 3 → some k ≠ some l := fun k hk e => by injection e; omega
        have b6 := (Blk.new W 132 #[.int .i32 xa, .string NM, .int .i64 dt, .int .i64 dl]).grown hgr (fun e => by injection e; omega)
        have b1' := (b1.alloc _).grown hgr (hne _ (by omega))
        have b2' := (b2.alloc _).grown hgr (hne _ (by omega))
        have b3' := (b3.alloc _).grown hgr (hne _ (by omega))
        have kB' : Below w.heap.size w W2 := (kB.alloc kB.size (.cells #[.int .i32 xa, .string NM, .int .i64 dt, .int .i64 dl] 132)).grown hgr (by simp <;> omega) (fun k e => by injection e; omega)
        clear b1 b2 b3 kB hgr
        have d60 := b6.cell 0
        have d61 := b6.cell 1
        have d62 := b6.cell 2
        have d63 := b6.cell 3
        simp at d60 d61 d62 d63
        have c10 := b1'.cell 0
        simp at c10
        have e20 := b2'.cell 0
        have e21 := b2'.cell 1
        simp at e20 e21
        have f20 := b2'.frozen 0
        have f21 := b2'.frozen 1
        have c3 := b3'.cell 0
        have f3 := b3'.frozen 0
        simp at c3
        have HN := Lib.hid (fun q hq => hno q hq)
        clear hno
        cases hm : (x.name == S.data.toList)
        · have hq := HQ.out
          rw [hm] at hq
          have hne2 : x.name ≠ S.data.toList := by simpa using hm
          have HE := Lib.hid hne2
          clear hne2 hm
          gi_wp2
          refine ⟨KeepC.refl _ _, KeepsOthers.refl _, b1', b2', b3', kB', ?_⟩
          intro q hq
          rcases List.mem_append.1 hq with h | h
          · exact HN.out q h
          · rw [List.mem_singleton.1 h]; exact HE.out
        · have hq := HQ.out
          rw [hm] at hq
          have hne2 : x.name = S.data.toList := by simpa using hm
          have HE := Lib.hid hne2
          clear hne2 hm
          gi_wp2
          refine ⟨((KeepsOthers.setCell _ _ _).trans (KeepsOthers.setCell _ _ _)).trans (KeepsOthers.setCell _ _ _), rfl, pre, x, rfl, HN.out, HE.out, ?_, ?_, ((kB'.setCell (by simp) _).setCell (by simp) _).setCell (by simp <;> omega) _⟩
          · rw [HXA.out]
            have h := ((b2'.set_ 0 (.int .u8 15)).set_ 1 (.int .i32 xa)).far (p := ⟨w.heap.size + 1 + 1, 0, none⟩) (by simp) (.bool true)
            simpa using h
          · exact ((b3'.far (p := ⟨w.heap.size + 1, 0, none⟩) (by simp) (.int .u8 15)).far (p := ⟨w.heap.size + 1, 1, none⟩) (by simp) (.int .i32 xa)).set_ 0 (.bool true)
      case done =>
        clear b1 b2 b3 kB
        rintro D W ⟨b1, b2, b3, kB, hno⟩ hK hD
        have hnone : namedI S.data.toList = none := by
          rw [HOPS.out, List.find?_eq_none]
          intro q hq
          simpa using hno q hq
        have HNO := Lib.hid hnone
        clear hnone hno
        have e20 := b2.cell 0
        have e21 := b2.cell 1
        simp at e20 e21
        have f20 := b2.frozen 0
        have f21 := b2.frozen 1
        have c3 := b3.cell 0
        have f3 := b3.frozen 0
        simp at c3
        go_wp2
        have b2n : Blk (((W.setCell ⟨w.heap.size + 1, 0, none⟩ (.int .u8 0)).setCell ⟨w.heap.size + 1, 1, none⟩ (.int .i32 0)).setCell ⟨w.heap.size + 1 + 1, 0, none⟩ (.bool false)) (w.heap.size + 1) 59 #[.int .u8 0, .int .i32 0] := by
          have h := ((b2.set_ 0 (.int .u8 0)).set_ 1 (.int .i32 0)).far (p := ⟨w.heap.size + 1 + 1, 0, none⟩) (by simp) (.bool false)
          simpa using h
        have b3n : Blk (((W.setCell ⟨w.heap.size + 1, 0, none⟩ (.int .u8 0)).setCell ⟨w.heap.size + 1, 1, none⟩ (.int .i32 0)).setCell ⟨w.heap.size + 1 + 1, 0, none⟩ (.bool false)) (w.heap.size + 1 + 1) 4 #[.bool false] :=
          ((b3.far (p := ⟨w.heap.size + 1, 0, none⟩) (by simp) (.int .u8 0)).far (p := ⟨w.heap.size + 1, 1, none⟩) (by simp) (.int .i32 0)).set_ 0 (.bool false)
        have kBn : Below w.heap.size w (((W.setCell ⟨w.heap.size + 1, 0, none⟩ (.int .u8 0)).setCell ⟨w.heap.size + 1, 1, none⟩ (.int .i32 0)).setCell ⟨w.heap.size + 1 + 1, 0, none⟩ (.bool false)) := ((kB.setCell (by simp) _).setCell (by simp) _).setCell (by simp <;> omega) _
        have hKn : (((W.setCell ⟨w.heap.size + 1, 0, none⟩ (.int .u8 0)).setCell ⟨w.heap.size + 1, 1, none⟩ (.int .i32 0)).setCell ⟨w.heap.size + 1 + 1, 0, none⟩ (.bool false)).heap[D]? = some (.deferred (some [])) := by
          have hn : ∀ (A : World) (p : Addr) (v : Value), p.block < W0.heap.size → A.heap[D]? = some (.deferred (some [])) → (A.setCell p v).heap[D]? = some (.deferred (some [])) := fun A p v hp h => (Below.heap_setCell A p v D (by omega)).trans h
          exact hn _ _ _ (by simp <;> omega) (hn _ _ _ (by simp <;> omega) (hn _ _ _ (by simp <;> omega) hK))
        generalize (((W.setCell ⟨w.heap.size + 1, 0, none⟩ (.int .u8 0)).setCell ⟨w.heap.size + 1, 1, none⟩ (.int .i32 0)).setCell ⟨w.heap.size + 1 + 1, 0, none⟩ (.bool false)) = Wf at *
        clear b2 b3 kB e20 e21 f20 f21 c3 f3 hK
        refine ⟨by simp, .inl ⟨_, _, rfl, run_takeDeferred hKn, ?_⟩⟩
        have b2f : ∀ o, Blk (Wf.putObj D o) (w.heap.size + 1) 59 #[.int .u8 0, .int .i32 0] := fun o => (World.putObj_heap_other (by omega)).trans b2n
        have b3f : ∀ o, Blk (Wf.putObj D o) (w.heap.size + 1 + 1) 4 #[.bool false] := fun o => (World.putObj_heap_other (by omega)).trans b3n
        have e0 := fun o => (b2f o).cell 0
        have e1 := fun o => (b2f o).cell 1
        have e4 := fun o => (b3f o).cell 0
        simp at e0 e1 e4
        refine ⟨.tuple #[.agg #[.int .u8 0, .int .i32 0], .bool false], by simp [results, Tryd.results67, go_sem, e0, e1, e4], ?_⟩
        exact ⟨by rw [HNO.out]; rfl, kBn.putObj (by omega) _⟩
      case stop =>
        clear b1 b2 b3 kB
        rintro D c pre x r W hxs ⟨rfl, pre', q, hpq, hno, hyes, b2n, b3n, kBn⟩ hKn hD
        refine wpIn_wide.2 ?_
        have hsome : namedI S.data.toList = some q := by
          obtain ⟨rfl, hx⟩ := List.append_inj' hpq rfl
          obtain rfl : x = q := by simpa using hx
          rw [HOPS.out, hxs, List.find?_append]
          have h1 : pre.find? (fun r => r.name == S.data.toList) = none := by
            rw [List.find?_eq_none]; intro q hq; simpa using hno q hq
          rw [h1, List.find?_cons]
          have h2 : (x.name == S.data.toList) = true := by simpa using hyes
          rw [h2]; rfl
        have h15 : q.fn = 15 := by
          obtain ⟨rfl, hx⟩ := List.append_inj' hpq rfl
          obtain rfl : x = q := by simpa using hx
          exact (tabO_ok x (by rw [hxs]; simp)).1
        have hV : instR (some q) = .tuple #[.agg #[.int .u8 15, .int .i32 q.arg], .bool true] := by
          show Value.tuple #[.agg #[.int .u8 (q.fn : Nat), .int .i32 (q.arg : Nat)], .bool true] = _
          rw [h15]; rfl
        have HSO := Lib.hid hsome
        have HV := Lib.hid hV
        clear hsome hV hxs hpq hno hyes h15
        go_wp2
        refine ⟨by simp, .inl ⟨_, _, rfl, run_takeDeferred hKn, ?_⟩⟩
        have b2f : ∀ o, Blk (W.putObj D o) (w.heap.size + 1) 59 #[.int .u8 15, .int .i32 q.arg] := fun o => (World.putObj_heap_other (by omega)).trans b2n
        have b3f : ∀ o, Blk (W.putObj D o) (w.heap.size + 1 + 1) 4 #[.bool true] := fun o => (World.putObj_heap_other (by omega)).trans b3n
        have e0 := fun o => (b2f o).cell 0
        have e1 := fun o => (b2f o).cell 1
        have e4 := fun o => (b3f o).cell 0
        simp at e0 e1 e4
        refine ⟨.tuple #[.agg #[.int .u8 15, .int .i32 q.arg], .bool true], by simp [results, Tryd.results67, go_sem, e0, e1, e4], ?_⟩
        exact ⟨by rw [HSO.out, HV.out], kBn.putObj (by omega) _⟩
end Go.Proofs.YtljeecocbcffcaaDoor

/- The program's Name, Effect, May and Text. -/
namespace Go.Proofs.YtljeecocbcffcaaDoor
open Go.RowKit
set_option linter.unusedVariables false
set_option linter.unusedSimpArgs false

def nameP (o : Option IRow) : Value := .tuple #[.string (strB (o.getD irow0).name), .bool o.isSome]
def effectP (o : Option IRow) : Value := .tuple #[.int .i64 (o.getD irow0).takes, .int .i64 (o.getD irow0).leaves, .bool o.isSome]
section
variable (fn arg : Int) (hf : 0 ≤ fn ∧ fn ≤ 255) (B : Nat) (w : World) (hL : Laid5 B w) (hB : B ≤ w.heap.size)
include hf hL hB

theorem pName : Calls Tryd.prog 71 #[.agg #[.int .u8 fn, .int .i32 arg]] w (RetV (nameP (findI fn arg)) w) := by
  have hB0 : Below w.heap.size w (w.alloc (.cells #[.int .u8 fn, .int .i32 arg] 59)) := (Below.refl _ _).alloc (Nat.le_refl _) _
  have HFi := Lib.hid (pFind fn arg hf B _ (hL.on (hB0.mono hB)) (Nat.le_trans hB hB0.size))
  unfold rowP rowV at HFi
  unfold nameP
  generalize (findI fn arg).isSome = ok at *
  generalize (findI fn arg).getD irow0 = r at *
  generalize strB r.name = NM at *
  clear hL
  go_enter Tryd.func71, Tryd.ntmps71
  go_wp2_with (go_at_call 87; refine HFi.out.mono ?_; rintro e w1 ⟨rfl, hb1⟩)
  go_ret2
  exact ⟨rfl, (hB0.trans (hb1.mono (by simp <;> omega))).alloc (by have := hb1.size; simp at this; omega) _⟩
theorem pMay : Calls Tryd.prog 70 #[.agg #[.int .u8 fn, .int .i32 arg]] w (RetV (.bool (findI fn arg).isSome) w) := by
  have hB0 : Below w.heap.size w (w.alloc (.cells #[.int .u8 fn, .int .i32 arg] 59)) := (Below.refl _ _).alloc (Nat.le_refl _) _
  have HFi := Lib.hid (pFind fn arg hf B _ (hL.on (hB0.mono hB)) (Nat.le_trans hB hB0.size))
  unfold rowP rowV at HFi
  generalize (findI fn arg).isSome = ok at *
  generalize (findI fn arg).getD irow0 = r at *
  generalize strB r.name = NM at *
  clear hL
  go_enter Tryd.func70, Tryd.ntmps70
  go_wp2_with (go_at_call 87; refine HFi.out.mono ?_; rintro e w1 ⟨rfl, hb1⟩)
  go_ret
  exact ⟨rfl, (hB0.trans (hb1.mono (by simp <;> omega))).alloc (by have := hb1.size; simp at this; omega) _⟩
end
end Go.Proofs.YtljeecocbcffcaaDoor

/- The program's Read. -/
namespace Go.Proofs.YtljeecocbcffcaaDoor
open Go.RowKit
set_option linter.unusedVariables false
set_option linter.unusedSimpArgs false

theorem rd_eq {a b c a' b' c' : Int} (h : (a, b, c) = (a', b', c')) : Ending.returned (.tuple #[.agg #[.int .u8 a, .int .i32 b], .int .i64 c]) = .returned (.tuple #[.agg #[.int .u8 a', .int .i32 b'], .int .i64 c']) := by
  injection h with h1 h2; injection h2 with h2 h3; rw [h1, h2, h3]
end Go.Proofs.YtljeecocbcffcaaDoor

/- The examples of the chapter, walked: reads, fails, awake. -/
namespace Go.Proofs.YtljeecocbcffcaaDoor
open Go.RowKit
set_option linter.unusedVariables false
set_option linter.unusedSimpArgs false

def instEq (a b c d : Int) : Bool := decide (a = c ∧ b = d)
theorem instEq_same (a b : Int) : instEq a b a b = true := by simp [instEq]
theorem inst_eqIn (w : World) (n : Nat) (a b c d : Int) : (Op.equalIn (n + 2) 59 (.agg #[.int .u8 a, .int .i32 b]) (.agg #[.int .u8 c, .int .i32 d])).run Tryd.prog w = .ok (instEq a b c d) w := by
  have hu := Tryd.underlying59
  unfold Op.equalIn
  simp only [Sem.run_bind, run_underlying hu]
  have u3 := Tryd.underlying5
  have u4 := Tryd.underlying21
  by_cases h1 : a = c <;> by_cases h2 : b = d <;> simp [Op.eqFields, part, run_equalIn_int _ _ _ _ _ _ _ u3, run_equalIn_int _ _ _ _ _ _ _ u4, instEq, h1, h2]
@[go_sem ↓] theorem inst_eql (w : World) (a b c d : Int) : (binOp .eql 59 (.agg #[.int .u8 a, .int .i32 b]) (.agg #[.int .u8 c, .int .i32 d])).run Tryd.prog w = .ok (.bool (instEq a b c d)) w := by
  simp only [binOp]
  simp [Op.equal, Op.maxDepth, inst_eqIn w 9998]
@[go_sem ↓] theorem inst_neq (w : World) (a b c d : Int) : (binOp .neq 59 (.agg #[.int .u8 a, .int .i32 b]) (.agg #[.int .u8 c, .int .i32 d])).run Tryd.prog w = .ok (.bool (!instEq a b c d)) w := by
  simp only [binOp]
  simp [Op.equal, Op.maxDepth, inst_eqIn w 9998]
@[go_sem ↓] theorem inst_guard (w : World) (op : BinOp) (x y : Operand) (xs ys : Array Value) : (eqGuard op 59 x y (.agg xs) (.agg ys)).run Tryd.prog w = .ok () w :=
  run_eqGuard_agg w op 59 x y xs ys (by kernel_rfl)
@[go_sem ↓] theorem inst_field0 (w : World) (a b : Value) : (Instr.field 59 (.agg #[a, b]) 0).run Tryd.prog w = .ok a w := by kernel_rfl
@[go_sem ↓] theorem inst_field1 (w : World) (a b : Value) : (Instr.field 59 (.agg #[a, b]) 1).run Tryd.prog w = .ok b w := by kernel_rfl

/-- What holds of the world on the way through a law. -/
def S5 (B : Nat) (w0 w : World) : Prop := Laid5 B w ∧ B ≤ w.heap.size ∧ Below w0.heap.size w0 w
theorem S5.start {B : Nat} {w : World} (h : Laid5 B w) (hB : B ≤ w.heap.size) : S5 B w w := ⟨h, hB, Below.refl _ _⟩
theorem S5.l {B : Nat} {w0 w : World} (h : S5 B w0 w) : Laid5 B w := h.1
theorem S5.b {B : Nat} {w0 w : World} (h : S5 B w0 w) : B ≤ w.heap.size := h.2.1
theorem S5.k {B : Nat} {w0 w : World} (h : S5 B w0 w) : Below w0.heap.size w0 w := h.2.2
theorem S5.call {B : Nat} {w0 w w1 : World} (h : S5 B w0 w) (hb : Below w.heap.size w w1) : S5 B w0 w1 :=
  ⟨h.1.call hb h.2.1, Nat.le_trans h.2.1 hb.size, h.2.2.trans (hb.mono h.2.2.size)⟩
theorem S5.alloc {B : Nat} {w0 w : World} (h : S5 B w0 w) (o : Obj) : S5 B w0 (w.alloc o) := h.call ((Below.refl _ _).alloc (Nat.le_refl _) _)
end Go.Proofs.YtljeecocbcffcaaDoor
