/- Texts that belong together, joined: what each one holds is told ahead of it. -/
import Derived.Test.YtekamebpjjkifaaHK45
import Derived.Deep.RegionLaw
/- The examples' kernel and network, walked. -/
namespace Go.Proofs.Ytekamebpjjkifaa
open Go.RowKit
set_option linter.unusedSimpArgs false
set_option linter.unusedVariables false

theorem i64s {n : Int} (h : (decide (0 ≤ n) && decide (n ≤ 1000)) = true) : i64ok n := by
  simp at h
  exact ⟨by omega, by omega⟩
/-- While the parts are made: l those that lie there, S where. -/
structure SmS (w W : World) (a b : Array Value) (S : Nat → Prop) (l : List KP) : Prop where
  bel : Below w.heap.size w W
  kb : Blk W w.heap.size 34 a
  tb : Blk W (w.heap.size + 1) 40 b
  lo : ∀ x, S x → w.heap.size + 2 ≤ x
  hi : ∀ x, W.heap.size ≤ x → S x
  ps : ∀ p ∈ l, Fresh S W p
theorem SmS.call {w W W' : World} {a b : Array Value} {S : Nat → Prop} {l : List KP} (h : SmS w W a b S l) (hb : Below W.heap.size W W') : SmS w W' a b S l :=
  ⟨h.bel.trans (hb.mono h.bel.size), h.kb.call hb, h.tb.call hb, h.lo, fun x hx => h.hi x (Nat.le_trans hb.size hx), fun p hp => (h.ps p hp).call hb⟩
theorem SmS.push {w W W' : World} {a b : Array Value} {S : Nat → Prop} {l : List KP} (h : SmS w W a b S l) (hb : Below W.heap.size W W') {p : KP} (hp : Fresh (fun x => W.heap.size ≤ x) W' p) : SmS w W' a b S (l ++ [p]) :=
  have h' := h.call hb
  ⟨h'.bel, h'.kb, h'.tb, h'.lo, h'.hi, fun q hq => by
    rcases List.mem_append.1 hq with hq | hq
    · exact h'.ps q hq
    · obtain rfl := List.mem_singleton.1 hq
      exact hp.to_ fun x _ hx => h.hi x hx⟩
/-- A row and a box are made; they are none of the parts. -/
theorem SmS.two {w W : World} {a b : Array Value} {S : Nat → Prop} {l : List KP} (h : SmS w W a b S l) (o1 o2 : Obj) : SmS w ((W.alloc o1).alloc o2) a b (fun x => S x ∧ x ≠ W.heap.size ∧ x ≠ W.heap.size + 1) l :=
  have hb : Below W.heap.size W ((W.alloc o1).alloc o2) := ((Below.refl _ _).alloc (Nat.le_refl _) _).alloc (by simp) _
  have h' := h.call hb
  ⟨h'.bel, h'.kb, h'.tb, fun x hx => h'.lo x hx.1, fun x hx => by
    simp at hx
    exact ⟨h.hi x (by omega), by omega, by omega⟩, fun p hp => ((h.ps p hp).to_ (S' := fun x => S x ∧ x ≠ W.heap.size ∧ x ≠ W.heap.size + 1) fun x hx hs => ⟨hs, by omega, by omega⟩).call hb⟩
theorem SmS.grown {w W W' : World} {a b : Array Value} {S : Nat → Prop} {l : List KP} (h : SmS w W a b S l) {g : Nat} (hg : W.grownBy W' (some g)) (hS : ¬ S g) (hlo : w.heap.size + 2 ≤ g) : SmS w W' a b S l :=
  ⟨h.bel.grown hg h.bel.size (fun q e => by injection e; omega), h.kb.grown hg (fun e => by injection e; omega), h.tb.grown hg (fun e => by injection e; omega), h.lo, fun x hx => h.hi x (Nat.le_trans hg.size hx), fun p hp => (h.ps p hp).keep hg.size fun a ha hl => World.cell?_of_block (hg.block a.block hl (fun e => by injection e with e; rw [e] at ha; exact hS ha))⟩
theorem SmS.set {w W : World} {a b : Array Value} {S : Nat → Prop} {l : List KP} (h : SmS w W a b S l) {g i : Nat} (hS : ¬ S g) (hlo : w.heap.size + 2 ≤ g) (v : Value) : SmS w (W.setCell ⟨g, i, none⟩ v) a b S l :=
  ⟨h.bel.setCell (by show w.heap.size ≤ g; omega) _, h.kb.far (p := ⟨g, i, none⟩) (by show w.heap.size ≠ g; omega) _, h.tb.far (p := ⟨g, i, none⟩) (by show w.heap.size + 1 ≠ g; omega) _, h.lo, fun x hx => h.hi x (by simpa using hx), fun p hp => (h.ps p hp).keep (by simp) fun a ha hl => World.cell?_setCell_other W ⟨g, i, none⟩ a v (fun e => hS (by rw [← e] at ha; exact ha))⟩
theorem own_blk {w : World} {g n base size : Nat} {T : TypeId} {cs : Array Value} (h : Blk w g T cs) (hb : base ≤ g) (hn : cs.size = n * size) (hm : n ≤ 1000000) (hs : size ≤ 1000) : w.ownsRow base T size (.slice (some ⟨g, 0, none⟩) n n) n cs.toList := by
  refine ⟨by simpa using hn, .inr ⟨g, n, cs, rfl, hb, h, Nat.le_refl _, by unfold maxLen; omega, by omega, ?_⟩⟩
  rw [List.take_of_length_le (by simp; omega)]
theorem reads_blk {w : World} {g n size : Nat} {cs : Array Value} {T : TypeId} (h : Blk w g T cs) (hn : cs.size = n * size) : Reads w w.heap.size size (some ⟨g, 0, none⟩) n cs.toList :=
  ⟨by simpa using hn, fun _ => ⟨_, rfl, h.lt, fun j u hu => by
    have hb := h.cell j
    rw [Array.getElem?_toList] at hu
    rw [hu] at hb
    have e : (Addr.add ⟨g, 0, none⟩ j) = ⟨g, j, none⟩ := by unfold Addr.add; by_cases hj : j = 0 <;> simp [hj]
    rw [e]
    exact hb⟩⟩
theorem manyP_in {kind c : Nat} {A : Option Addr} {l : List KP} {W : World} {B : Nat} (hk : kind ≤ 255) (hl : lenOk l) (h : Reads W B 8 A l.length (kpsC l)) (hp : ∀ p ∈ l, p.In W B) : (manyP kind A c l).In W B := by
  unfold KP.In
  rw [KP.all_iff]
  exact ⟨⟨⟨hk, i64_0, i64_0, le255 rfl, len_ok rfl, hl⟩, ⟨len_ok rfl, Reads.none_, (fun x hx => by cases hx)⟩, ⟨len_ok rfl, Reads.none_, (fun x hx => by cases hx)⟩, ⟨Reads.none_, (fun x hx => by cases hx)⟩, h⟩, (fun x hx => by cases hx), hp⟩
theorem smK_in {more : Bool} {f : Nat → Option Addr} {c : Nat → Nat} {W : World} {B : Nat} (hp : ∀ p ∈ smA more f ++ smB more f, p.In W B) (h9 : Reads W B 2 (f 9) 1 (varsC [⟨1, 0⟩])) (h10 : Reads W B 1 (f 10) 6 (hostsC [1, 2, 0, 0, 0, 0]))
    (h11 : Reads W B 8 (f 11) 2 (kpsC [manyP 9 (f 12) (c 3) (smA more f), manyP 9 (f 13) (c 4) (smB more f)])) (h12 : Reads W B 8 (f 12) (smA more f).length (kpsC (smA more f))) (h13 : Reads W B 8 (f 13) (smB more f).length (kpsC (smB more f)))
    (h14 : Reads W B 1 (f 14) 2 (intsC [0, 1])) : (smK more f c [0, 1]).In W B := by
  have la : lenOk (smA more f) := by cases more <;> exact len_ok rfl
  have lb : lenOk (smB more f) := by cases more <;> exact len_ok rfl
  refine ⟨⟨len_ok rfl, h9, fun x hx => ?_⟩, ⟨len_ok rfl, h10, fun x hx => ?_⟩, manyP_in (le255 rfl) (len_ok rfl) h11 (fun p hp' => ?_), ⟨len_ok rfl, h14, fun x hx => ?_⟩⟩
  · obtain rfl := List.mem_singleton.1 hx
    exact ⟨le255 rfl, i64_0⟩
  · simp [smK] at hx
    omega
  · simp at hp'
    rcases hp' with rfl | rfl
    · exact manyP_in (le255 rfl) la h12 fun p hq => hp p (List.mem_append_left _ hq)
    · exact manyP_in (le255 rfl) lb h13 fun p hq => hp p (List.mem_append_right _ hq)
  · simp [smK] at hx
    rcases hx with rfl | rfl
    · exact i64_0
    · exact ⟨by decide, by decide⟩
/-- One block written over, cell by cell. -/
structure Wrote (W W' : World) (g : Nat) (t : TypeId) (cs : Array Value) : Prop where
  blk : Blk W' g t cs
  far : ∀ a : Addr, a.block ≠ g → W'.cell? a = W.cell? a
  other : ∀ h t' cs', h ≠ g → Blk W h t' cs' → Blk W' h t' cs'
  size : W'.heap.size = W.heap.size
  below : ∀ B W0, B ≤ g → Below B W0 W → Below B W0 W'
theorem Wrote.nil {W : World} {g : Nat} {t : TypeId} {cs : Array Value} (h : Blk W g t cs) : Wrote W W g t cs := ⟨h, fun _ _ => rfl, fun _ _ _ _ h => h, rfl, fun _ _ _ h => h⟩
theorem Wrote.set_ {W W' : World} {g : Nat} {t : TypeId} {cs : Array Value} (h : Wrote W W' g t cs) (i : Nat) (v : Value) : Wrote W (W'.setCell ⟨g, i, none⟩ v) g t (cs.setIfInBounds i v) :=
  ⟨h.blk.set_ i v, fun a ha => (World.cell?_setCell_other W' ⟨g, i, none⟩ a v (fun e => ha (by rw [← e]))).trans (h.far a ha), fun k t' cs' hk hb => (h.other k t' cs' hk hb).far (p := ⟨g, i, none⟩) hk v, by rw [← h.size]; simp, fun B W0 hB hb => (h.below B W0 hB hb).setCell hB v⟩
theorem Wrote.drew {W W' : World} {g : Nat} {t : TypeId} {cs : Array Value} (h : Wrote W W' g t cs) : Wrote W W'.drew g t cs := ⟨h.blk.drew, h.far, h.other, h.size, fun B W0 hB hb => (h.below B W0 hB hb).drew⟩
/-- Seven new blocks. -/
theorem seven {W W7 : World} (c1 c2 c3 c4 c5 c6 c7 : Array Value) (t1 t2 t3 t4 t5 t6 t7 : TypeId) (h : ((((((W.alloc (.cells c1 t1)).alloc (.cells c2 t2)).alloc (.cells c3 t3)).alloc (.cells c4 t4)).alloc (.cells c5 t5)).alloc (.cells c6 t6)).alloc (.cells c7 t7) = W7) :
    Below W.heap.size W W7 ∧ Blk W7 W.heap.size t1 c1 ∧ Blk W7 (W.heap.size + 1) t2 c2 ∧ Blk W7 (W.heap.size + 1 + 1) t3 c3 ∧ Blk W7 (W.heap.size + 1 + 1 + 1) t4 c4 ∧ Blk W7 (W.heap.size + 1 + 1 + 1 + 1) t5 c5 ∧ Blk W7 (W.heap.size + 1 + 1 + 1 + 1 + 1) t6 c6 ∧ Blk W7 (W.heap.size + 1 + 1 + 1 + 1 + 1 + 1) t7 c7 := by
  obtain ⟨W1, h1⟩ : ∃ V, W.alloc (.cells c1 t1) = V := ⟨_, rfl⟩
  obtain ⟨W2, h2⟩ : ∃ V, W1.alloc (.cells c2 t2) = V := ⟨_, rfl⟩
  obtain ⟨W3, h3⟩ : ∃ V, W2.alloc (.cells c3 t3) = V := ⟨_, rfl⟩
  obtain ⟨W4, h4⟩ : ∃ V, W3.alloc (.cells c4 t4) = V := ⟨_, rfl⟩
  obtain ⟨W5, h5⟩ : ∃ V, W4.alloc (.cells c5 t5) = V := ⟨_, rfl⟩
  obtain ⟨W6, h6⟩ : ∃ V, W5.alloc (.cells c6 t6) = V := ⟨_, rfl⟩
  rw [h1, h2, h3, h4, h5, h6] at h
  have s1 : W1.heap.size = W.heap.size + 1 := by rw [← h1]; simp
  have s2 : W2.heap.size = W1.heap.size + 1 := by rw [← h2]; simp
  have s3 : W3.heap.size = W2.heap.size + 1 := by rw [← h3]; simp
  have s4 : W4.heap.size = W3.heap.size + 1 := by rw [← h4]; simp
  have s5 : W5.heap.size = W4.heap.size + 1 := by rw [← h5]; simp
  have s6 : W6.heap.size = W5.heap.size + 1 := by rw [← h6]; simp
  have b1 : Blk W1 W.heap.size t1 c1 := h1 ▸ Blk.new _ _ _
  have b2 : Blk W2 W1.heap.size t2 c2 := h2 ▸ Blk.new _ _ _
  have b3 : Blk W3 W2.heap.size t3 c3 := h3 ▸ Blk.new _ _ _
  have b4 : Blk W4 W3.heap.size t4 c4 := h4 ▸ Blk.new _ _ _
  have b5 : Blk W5 W4.heap.size t5 c5 := h5 ▸ Blk.new _ _ _
  have b6 : Blk W6 W5.heap.size t6 c6 := h6 ▸ Blk.new _ _ _
  have b7 : Blk W7 W6.heap.size t7 c7 := h ▸ Blk.new _ _ _
  have k1 : Below W.heap.size W W1 := h1 ▸ (Below.refl _ _).alloc (Nat.le_refl _) _
  have k2 : Below W1.heap.size W1 W2 := h2 ▸ (Below.refl _ _).alloc (Nat.le_refl _) _
  have k3 : Below W2.heap.size W2 W3 := h3 ▸ (Below.refl _ _).alloc (Nat.le_refl _) _
  have k4 : Below W3.heap.size W3 W4 := h4 ▸ (Below.refl _ _).alloc (Nat.le_refl _) _
  have k5 : Below W4.heap.size W4 W5 := h5 ▸ (Below.refl _ _).alloc (Nat.le_refl _) _
  have k6 : Below W5.heap.size W5 W6 := h6 ▸ (Below.refl _ _).alloc (Nat.le_refl _) _
  have k7 : Below W6.heap.size W6 W7 := h ▸ (Below.refl _ _).alloc (Nat.le_refl _) _
  have l6 := k7
  have l5 := k6.trans (l6.mono k6.size)
  have l4 := k5.trans (l5.mono k5.size)
  have l3 := k4.trans (l4.mono k4.size)
  have l2 := k3.trans (l3.mono k3.size)
  have l1 := k2.trans (l2.mono k2.size)
  have l0 := k1.trans (l1.mono k1.size)
  rw [s6, s5, s4, s3, s2, s1] at b7
  have q6 := b6.call l6
  rw [s5, s4, s3, s2, s1] at q6
  have q5 := b5.call l5
  rw [s4, s3, s2, s1] at q5
  have q4 := b4.call l4
  rw [s3, s2, s1] at q4
  have q3 := b3.call l3
  rw [s2, s1] at q3
  have q2 := b2.call l2
  rw [s1] at q2
  exact ⟨l0, b1.call l1, q2, q3, q4, q5, q6, b7⟩
theorem kernel_size : (Try.prog.info? 34).map (·.size) = some 11 := by kernel_rfl
theorem topo_size : (Try.prog.info? 40).map (·.size) = some 4 := by kernel_rfl
/-- What sample answers. -/
def RetSm (more : Bool) (w : World) (e : Ending) (w' : World) : Prop :=
  Below w.heap.size w w' ∧ ∃ (f : Nat → Option Addr) (c : Nat → Nat) (A : Option Addr) (c' : Nat), e = .returned (.tuple #[.agg (smK more f c [0, 1]).flat, .agg (smT A c').flat]) ∧ (smK more f c [0, 1]).In w' w'.heap.size ∧ (smT A c').In w' w'.heap.size ∧ 2 ≤ c 5
def smF (C0 C1 C2 C3 C4 C5 C6 C7 C8 A9 A10 A11 A12 A13 A14 : Option Addr) (n : Nat) : Option Addr := ([C0, C1, C2, C3, C4, C5, C6, C7, C8, A9, A10, A11, A12, A13, A14] : List (Option Addr)).getD n none
def smC (a b : Nat) (n : Nat) : Nat := ([1, 6, 2, a, b, 2] : List Nat).getD n 0
theorem sm_fin {w wx : World} (more : Bool) {a b : Nat} {C0 C1 C2 C3 C4 C5 C6 C7 C8 A9 A10 A11 A12 A13 A14 AT : Option Addr} (hb : Below w.heap.size w wx)
    (hp : ∀ p ∈ smA more (smF C0 C1 C2 C3 C4 C5 C6 C7 C8 A9 A10 A11 A12 A13 A14) ++ smB more (smF C0 C1 C2 C3 C4 C5 C6 C7 C8 A9 A10 A11 A12 A13 A14), p.In wx wx.heap.size)
    (h9 : Reads wx wx.heap.size 2 A9 1 (varsC [⟨1, 0⟩])) (h10 : Reads wx wx.heap.size 1 A10 6 (hostsC [1, 2, 0, 0, 0, 0]))
    (h11 : Reads wx wx.heap.size 8 A11 2 (kpsC [manyP 9 A12 a (smA more (smF C0 C1 C2 C3 C4 C5 C6 C7 C8 A9 A10 A11 A12 A13 A14)), manyP 9 A13 b (smB more (smF C0 C1 C2 C3 C4 C5 C6 C7 C8 A9 A10 A11 A12 A13 A14))]))
    (h12 : Reads wx wx.heap.size 8 A12 (smA more (smF C0 C1 C2 C3 C4 C5 C6 C7 C8 A9 A10 A11 A12 A13 A14)).length (kpsC (smA more (smF C0 C1 C2 C3 C4 C5 C6 C7 C8 A9 A10 A11 A12 A13 A14))))
    (h13 : Reads wx wx.heap.size 8 A13 (smB more (smF C0 C1 C2 C3 C4 C5 C6 C7 C8 A9 A10 A11 A12 A13 A14)).length (kpsC (smB more (smF C0 C1 C2 C3 C4 C5 C6 C7 C8 A9 A10 A11 A12 A13 A14))))
    (h14 : Reads wx wx.heap.size 1 A14 2 (intsC [0, 1])) (hT : Reads wx wx.heap.size 4 AT 2 (wcells [⟨0, 2, 1, 0⟩, ⟨0, 1, 1, 3⟩])) :
    RetSm more w (.returned (.tuple #[.agg #[.slice A9 1 1, .slice A10 6 6, .int .u8 10, .int .i64 0, .int .i64 0, .int .u8 0, .slice none 0 0, .slice none 0 0, .slice none 0 0, .slice A11 2 2, .slice A14 2 2], .agg #[.int .i64 2, .slice AT 2 2, .int .i64 0, .int .i64 0]])) wx :=
  ⟨hb, smF C0 C1 C2 C3 C4 C5 C6 C7 C8 A9 A10 A11 A12 A13 A14, smC a b, AT, 2, rfl, smK_in hp h9 h10 h11 h12 h13 h14, hT, Nat.le_refl 2⟩
theorem reads_kept {W W' : World} {lo g n size : Nat} {cs : Array Value} {T : TypeId} (hz : W'.heap.size = W.heap.size) (hk : ∀ a : Addr, lo ≤ a.block → W'.cell? a = W.cell? a) (h : Blk W g T cs) (hg : lo ≤ g) (hn : cs.size = n * size) : Reads W' W'.heap.size size (some ⟨g, 0, none⟩) n cs.toList := by
  have := reads_blk h hn
  rw [hz]
  exact reads_of this fun a ha => hk a (by omega)
theorem reads_far {W W' : World} {lo g n size : Nat} {xs : List Value} (hz : W'.heap.size = W.heap.size) (hk : ∀ a : Addr, lo ≤ a.block → W'.cell? a = W.cell? a) (h : Reads W W.heap.size size (some ⟨g, 0, none⟩) n xs) (hg : lo ≤ g) : Reads W' W'.heap.size size (some ⟨g, 0, none⟩) n xs := by
  rw [hz]
  exact reads_of h fun a ha => hk a (by omega)
set_option maxRecDepth 100000 in
set_option maxHeartbeats 8000000 in
theorem lSample_no (w : World) : Calls Try.prog 19 #[.bool false] w (RetSm false w) := by
  have HO := Lib.hid (fun (c : Int) (hc : i64ok c) (w1 : World) => lOut c hc w1)
  have HI := Lib.hid (fun (c : Int) (hc : i64ok c) (w1 : World) => lIn c hc w1)
  obtain ⟨W0, hW0⟩ : ∃ W, (w.alloc (.cells #[.slice none 0 0, .slice none 0 0, .int .u8 0, .int .i64 0, .int .i64 0, .int .u8 0, .slice none 0 0, .slice none 0 0, .slice none 0 0, .slice none 0 0, .slice none 0 0] 34)).alloc (.cells #[.int .i64 0, .slice none 0 0, .int .i64 0, .int .i64 0] 40) = W := ⟨_, rfl⟩
  obtain ⟨l1, l2, l3⟩ := lay2 w #[.slice none 0 0, .slice none 0 0, .int .u8 0, .int .i64 0, .int .i64 0, .int .u8 0, .slice none 0 0, .slice none 0 0, .slice none 0 0, .slice none 0 0, .slice none 0 0] #[.int .i64 0, .slice none 0 0, .int .i64 0, .int .i64 0] 34 40
  have hz0 : W0.heap.size = w.heap.size + 2 := by rw [← hW0]; simp
  rw [hW0] at l1 l2 l3
  have K := Lib.hid (SmS.mk (S := fun x => w.heap.size + 2 ≤ x) l1 l2 l3 (fun x hx => hx) (fun x hx => by omega) (l := []) (fun p hp => by cases hp))
  clear l1 l2 l3 hz0
  go_enter Try.func19, Try.ntmps19
  go_upto_region 1 with fail
  clear hW0
  go_upto_region 2 with (first
      | (go_at_call 31; refine (HO.out _ (i64s rfl) _).mono ?_; rintro e w1 ⟨hb1, A1, he, hin1⟩
         simp [outP, KP.cells] at he
         subst he
         replace K := Lib.hid (K.out.push hb1 hin1)
         clear hb1 hin1)
      | (go_at_call 32; refine (HI.out _ (i64s rfl) _).mono ?_; rintro e w1 ⟨hb1, A1, he, hin1⟩
         simp [inP, KP.cells] at he
         subst he
         replace K := Lib.hid (K.out.push hb1 hin1)
         clear hb1 hin1))
  rename_i x1 C0 x2 C1 x3 C2 Kx ax
  obtain ⟨C3, rfl⟩ : ∃ q, q = A1 := ⟨_, rfl⟩
  obtain ⟨w4, rfl⟩ : ∃ q, q = w1 := ⟨_, rfl⟩
  obtain ⟨W1, hW1⟩ : ∃ W, (w4.alloc (.cells #[.int .u8 6, .int .i64 2, .int .i64 0, .int .u8 1, .slice none 0 0, .slice C0 1 1, .slice none 0 0, .slice none 0 0, .int .u8 6, .int .i64 3, .int .i64 0, .int .u8 1, .slice none 0 0, .slice C1 1 1, .slice none 0 0, .slice none 0 0, .int .u8 6, .int .i64 1, .int .i64 0, .int .u8 1, .slice none 0 0, .slice C2 1 1, .slice none 0 0, .slice none 0 0, .int .u8 5, .int .i64 4, .int .i64 0, .int .u8 1, .slice C3 1 1, .slice none 0 0, .slice none 0 0, .slice none 0 0] 31)).alloc (.cells #[.int .u8 9, .int .i64 0, .int .i64 0, .int .u8 0, .slice none 0 0, .slice none 0 0, .slice none 0 0, .slice (some ⟨w4.heap.size, 0, none⟩) 4 4] 31) = W := ⟨_, rfl⟩
  have RA := Lib.hid ((Blk.new w4 31 #[.int .u8 6, .int .i64 2, .int .i64 0, .int .u8 1, .slice none 0 0, .slice C0 1 1, .slice none 0 0, .slice none 0 0, .int .u8 6, .int .i64 3, .int .i64 0, .int .u8 1, .slice none 0 0, .slice C1 1 1, .slice none 0 0, .slice none 0 0, .int .u8 6, .int .i64 1, .int .i64 0, .int .u8 1, .slice none 0 0, .slice C2 1 1, .slice none 0 0, .slice none 0 0, .int .u8 5, .int .i64 4, .int .i64 0, .int .u8 1, .slice C3 1 1, .slice none 0 0, .slice none 0 0, .slice none 0 0]).alloc (.cells #[.int .u8 9, .int .i64 0, .int .i64 0, .int .u8 0, .slice none 0 0, .slice none 0 0, .slice none 0 0, .slice (some ⟨w4.heap.size, 0, none⟩) 4 4] 31))
  have BA := Lib.hid (Blk.new (w4.alloc (.cells #[.int .u8 6, .int .i64 2, .int .i64 0, .int .u8 1, .slice none 0 0, .slice C0 1 1, .slice none 0 0, .slice none 0 0, .int .u8 6, .int .i64 3, .int .i64 0, .int .u8 1, .slice none 0 0, .slice C1 1 1, .slice none 0 0, .slice none 0 0, .int .u8 6, .int .i64 1, .int .i64 0, .int .u8 1, .slice none 0 0, .slice C2 1 1, .slice none 0 0, .slice none 0 0, .int .u8 5, .int .i64 4, .int .i64 0, .int .u8 1, .slice C3 1 1, .slice none 0 0, .slice none 0 0, .slice none 0 0] 31)) 31 #[.int .u8 9, .int .i64 0, .int .i64 0, .int .u8 0, .slice none 0 0, .slice none 0 0, .slice none 0 0, .slice (some ⟨w4.heap.size, 0, none⟩) 4 4])
  have hbt : Below w4.heap.size w4 ((w4.alloc (.cells #[.int .u8 6, .int .i64 2, .int .i64 0, .int .u8 1, .slice none 0 0, .slice C0 1 1, .slice none 0 0, .slice none 0 0, .int .u8 6, .int .i64 3, .int .i64 0, .int .u8 1, .slice none 0 0, .slice C1 1 1, .slice none 0 0, .slice none 0 0, .int .u8 6, .int .i64 1, .int .i64 0, .int .u8 1, .slice none 0 0, .slice C2 1 1, .slice none 0 0, .slice none 0 0, .int .u8 5, .int .i64 4, .int .i64 0, .int .u8 1, .slice C3 1 1, .slice none 0 0, .slice none 0 0, .slice none 0 0] 31)).alloc (.cells #[.int .u8 9, .int .i64 0, .int .i64 0, .int .u8 0, .slice none 0 0, .slice none 0 0, .slice none 0 0, .slice (some ⟨w4.heap.size, 0, none⟩) 4 4] 31)) := ((Below.refl _ _).alloc (Nat.le_refl _) _).alloc (by simp) _
  replace K := Lib.hid (And.intro K.out.tb.lt (K.out.two (.cells #[.int .u8 6, .int .i64 2, .int .i64 0, .int .u8 1, .slice none 0 0, .slice C0 1 1, .slice none 0 0, .slice none 0 0, .int .u8 6, .int .i64 3, .int .i64 0, .int .u8 1, .slice none 0 0, .slice C1 1 1, .slice none 0 0, .slice none 0 0, .int .u8 6, .int .i64 1, .int .i64 0, .int .u8 1, .slice none 0 0, .slice C2 1 1, .slice none 0 0, .slice none 0 0, .int .u8 5, .int .i64 4, .int .i64 0, .int .u8 1, .slice C3 1 1, .slice none 0 0, .slice none 0 0, .slice none 0 0] 31) (.cells #[.int .u8 9, .int .i64 0, .int .i64 0, .int .u8 0, .slice none 0 0, .slice none 0 0, .slice none 0 0, .slice (some ⟨w4.heap.size, 0, none⟩) 4 4] 31)))
  have eW1 : (w4.alloc (.cells #[.int .u8 6, .int .i64 2, .int .i64 0, .int .u8 1, .slice none 0 0, .slice C0 1 1, .slice none 0 0, .slice none 0 0, .int .u8 6, .int .i64 3, .int .i64 0, .int .u8 1, .slice none 0 0, .slice C1 1 1, .slice none 0 0, .slice none 0 0, .int .u8 6, .int .i64 1, .int .i64 0, .int .u8 1, .slice none 0 0, .slice C2 1 1, .slice none 0 0, .slice none 0 0, .int .u8 5, .int .i64 4, .int .i64 0, .int .u8 1, .slice C3 1 1, .slice none 0 0, .slice none 0 0, .slice none 0 0] 31)).heap.size = w4.heap.size + 1 := by simp
  rw [eW1] at BA
  rw [hW1] at RA BA K hbt ⊢

  have Hg1 : Hid (w.heap.size + 2 ≤ w4.heap.size) := Lib.hid (by have := K.out.1; omega)
  replace K := Lib.hid K.out.2
  clear hW1 eW1 hbt
  generalize w4.heap.size = g1 at *
  go_upto_region 3 with (first
      | (go_at_call 31; refine (HO.out _ (i64s rfl) _).mono ?_; rintro e w1 ⟨hb1, A1, he, hin1⟩
         simp [outP, KP.cells] at he
         subst he
         replace RA := Lib.hid (RA.out.call hb1)
         replace BA := Lib.hid (BA.out.call hb1)
         replace K := Lib.hid (K.out.push hb1 hin1)
         clear hb1 hin1)
      | (go_at_call 32; refine (HI.out _ (i64s rfl) _).mono ?_; rintro e w1 ⟨hb1, A1, he, hin1⟩
         simp [inP, KP.cells] at he
         subst he
         replace RA := Lib.hid (RA.out.call hb1)
         replace BA := Lib.hid (BA.out.call hb1)
         replace K := Lib.hid (K.out.push hb1 hin1)
         clear hb1 hin1))
  rename_i x4 C4 x5 C5 Ky ay Kz az
  obtain ⟨C6, rfl⟩ : ∃ q, q = A1 := ⟨_, rfl⟩
  obtain ⟨w7, rfl⟩ : ∃ q, q = w1 := ⟨_, rfl⟩
  have H12a : g1 + 1 < w7.heap.size := BA.out.lt
  obtain ⟨W2, hW2⟩ : ∃ W, (w7.alloc (.cells #[.int .u8 5, .int .i64 2, .int .i64 0, .int .u8 1, .slice C4 1 1, .slice none 0 0, .slice none 0 0, .slice none 0 0, .int .u8 5, .int .i64 3, .int .i64 0, .int .u8 1, .slice C5 1 1, .slice none 0 0, .slice none 0 0, .slice none 0 0, .int .u8 6, .int .i64 4, .int .i64 0, .int .u8 1, .slice none 0 0, .slice C6 1 1, .slice none 0 0, .slice none 0 0] 31)).alloc (.cells #[.int .u8 9, .int .i64 0, .int .i64 0, .int .u8 0, .slice none 0 0, .slice none 0 0, .slice none 0 0, .slice (some ⟨w7.heap.size, 0, none⟩) 3 3] 31) = W := ⟨_, rfl⟩
  have RB := Lib.hid ((Blk.new w7 31 #[.int .u8 5, .int .i64 2, .int .i64 0, .int .u8 1, .slice C4 1 1, .slice none 0 0, .slice none 0 0, .slice none 0 0, .int .u8 5, .int .i64 3, .int .i64 0, .int .u8 1, .slice C5 1 1, .slice none 0 0, .slice none 0 0, .slice none 0 0, .int .u8 6, .int .i64 4, .int .i64 0, .int .u8 1, .slice none 0 0, .slice C6 1 1, .slice none 0 0, .slice none 0 0]).alloc (.cells #[.int .u8 9, .int .i64 0, .int .i64 0, .int .u8 0, .slice none 0 0, .slice none 0 0, .slice none 0 0, .slice (some ⟨w7.heap.size, 0, none⟩) 3 3] 31))
  have BB := Lib.hid (Blk.new (w7.alloc (.cells #[.int .u8 5, .int .i64 2, .int .i64 0, .int .u8 1, .slice C4 1 1, .slice none 0 0, .slice none 0 0, .slice none 0 0, .int .u8 5, .int .i64 3, .int .i64 0, .int .u8 1, .slice C5 1 1, .slice none 0 0, .slice none 0 0, .slice none 0 0, .int .u8 6, .int .i64 4, .int .i64 0, .int .u8 1, .slice none 0 0, .slice C6 1 1, .slice none 0 0, .slice none 0 0] 31)) 31 #[.int .u8 9, .int .i64 0, .int .i64 0, .int .u8 0, .slice none 0 0, .slice none 0 0, .slice none 0 0, .slice (some ⟨w7.heap.size, 0, none⟩) 3 3])
  have hbt : Below w7.heap.size w7 ((w7.alloc (.cells #[.int .u8 5, .int .i64 2, .int .i64 0, .int .u8 1, .slice C4 1 1, .slice none 0 0, .slice none 0 0, .slice none 0 0, .int .u8 5, .int .i64 3, .int .i64 0, .int .u8 1, .slice C5 1 1, .slice none 0 0, .slice none 0 0, .slice none 0 0, .int .u8 6, .int .i64 4, .int .i64 0, .int .u8 1, .slice none 0 0, .slice C6 1 1, .slice none 0 0, .slice none 0 0] 31)).alloc (.cells #[.int .u8 9, .int .i64 0, .int .i64 0, .int .u8 0, .slice none 0 0, .slice none 0 0, .slice none 0 0, .slice (some ⟨w7.heap.size, 0, none⟩) 3 3] 31)) := ((Below.refl _ _).alloc (Nat.le_refl _) _).alloc (by simp) _
  replace K := Lib.hid (And.intro K.out.tb.lt (K.out.two (.cells #[.int .u8 5, .int .i64 2, .int .i64 0, .int .u8 1, .slice C4 1 1, .slice none 0 0, .slice none 0 0, .slice none 0 0, .int .u8 5, .int .i64 3, .int .i64 0, .int .u8 1, .slice C5 1 1, .slice none 0 0, .slice none 0 0, .slice none 0 0, .int .u8 6, .int .i64 4, .int .i64 0, .int .u8 1, .slice none 0 0, .slice C6 1 1, .slice none 0 0, .slice none 0 0] 31) (.cells #[.int .u8 9, .int .i64 0, .int .i64 0, .int .u8 0, .slice none 0 0, .slice none 0 0, .slice none 0 0, .slice (some ⟨w7.heap.size, 0, none⟩) 3 3] 31)))
  have eW2 : (w7.alloc (.cells #[.int .u8 5, .int .i64 2, .int .i64 0, .int .u8 1, .slice C4 1 1, .slice none 0 0, .slice none 0 0, .slice none 0 0, .int .u8 5, .int .i64 3, .int .i64 0, .int .u8 1, .slice C5 1 1, .slice none 0 0, .slice none 0 0, .slice none 0 0, .int .u8 6, .int .i64 4, .int .i64 0, .int .u8 1, .slice none 0 0, .slice C6 1 1, .slice none 0 0, .slice none 0 0] 31)).heap.size = w7.heap.size + 1 := by simp
  rw [eW2] at BB
  rw [hW2] at RB BB K hbt ⊢
  replace RA := Lib.hid (RA.out.call hbt)
  replace BA := Lib.hid (BA.out.call hbt)
  have H12 : Hid (g1 + 1 < w7.heap.size) := Lib.hid (by have := H12a; omega)
  have Hg2 : Hid (w.heap.size + 2 ≤ w7.heap.size) := Lib.hid (by have := K.out.1; omega)
  replace K := Lib.hid K.out.2
  clear hW2 eW2 hbt H12a
  generalize w7.heap.size = g2 at *
  have x8 := (BA.out.alloc (.cells #[.int .u8 1, .int .i64 0] 82)).alloc (.cells #[.int .u8 1, .int .u8 2, .int .u8 0, .int .u8 0, .int .u8 0, .int .u8 0] 83)
  have x9 := (BB.out.alloc (.cells #[.int .u8 1, .int .i64 0] 82)).alloc (.cells #[.int .u8 1, .int .u8 2, .int .u8 0, .int .u8 0, .int .u8 0, .int .u8 0] 83)
  have e0 := x8.cell 0
  have e1 := x8.cell 1
  have e2 := x8.cell 2
  have e3 := x8.cell 3
  have e4 := x8.cell 4
  have e5 := x8.cell 5
  have e6 := x8.cell 6
  have e7 := x8.cell 7
  simp at e0 e1 e2 e3 e4 e5 e6 e7
  have q0 := x9.cell 0
  have q1 := x9.cell 1
  have q2 := x9.cell 2
  have q3 := x9.cell 3
  have q4 := x9.cell 4
  have q5 := x9.cell 5
  have q6 := x9.cell 6
  have q7 := x9.cell 7
  simp at q0 q1 q2 q3 q4 q5 q6 q7
  go_upto_region 8 with fail
  clear x8 x9 e0 e1 e2 e3 e4 e5 e6 e7 q0 q1 q2 q3 q4 q5 q6 q7
  obtain ⟨W7, hW7⟩ : ∃ W, (((((((W2.alloc (.cells #[.int .u8 1, .int .i64 0] 82)).alloc (.cells #[.int .u8 1, .int .u8 2, .int .u8 0, .int .u8 0, .int .u8 0, .int .u8 0] 83)).alloc (.cells #[.int .u8 9, .int .i64 0, .int .i64 0, .int .u8 0, .slice none 0 0, .slice none 0 0, .slice none 0 0, .slice (some ⟨g1, 0, none⟩) 4 4, .int .u8 9, .int .i64 0, .int .i64 0, .int .u8 0, .slice none 0 0, .slice none 0 0, .slice none 0 0, .slice (some ⟨g2, 0, none⟩) 3 3] 31)).alloc (.cells #[.int .i64 0, .int .i64 1] 3)).alloc (.cells #[.slice (some ⟨W2.heap.size, 0, none⟩) 1 1, .slice (some ⟨W2.heap.size + 1, 0, none⟩) 6 6, .int .u8 10, .int .i64 0, .int .i64 0, .int .u8 0, .slice none 0 0, .slice none 0 0, .slice none 0 0, .slice (some ⟨W2.heap.size + 1 + 1, 0, none⟩) 2 2, .slice (some ⟨W2.heap.size + 1 + 1 + 1, 0, none⟩) 2 2] 34)).alloc (.cells #[.int .i64 0, .int .i64 2, .int .i64 1, .int .i64 0, .int .i64 0, .int .i64 1, .int .i64 1, .int .i64 3] 94)).alloc (.cells #[.int .i64 2, .slice (some ⟨W2.heap.size + 1 + 1 + 1 + 1 + 1, 0, none⟩) 2 2, .int .i64 0, .int .i64 0] 40)) = W := ⟨_, rfl⟩
  obtain ⟨s0, s1, s2, s3, s4, s5, s6, s7⟩ := seven _ _ _ _ _ _ _ _ _ _ _ _ _ _ hW7
  rw [hW7]
  have K7 := Lib.hid (K.out.call s0)
  have RA7 := Lib.hid (reads_blk (n := 4) (size := 8) (RA.out.call s0) rfl)
  have RB7 := Lib.hid (reads_blk (n := 3) (size := 8) (RB.out.call s0) rfl)
  have HM : Hid (w.heap.size + 2 ≤ W2.heap.size) := Lib.hid (by have := K.out.tb.lt; omega)
  clear K RA RB BA BB s0 hW7
  generalize W2.heap.size = m at *
  have S1 := Lib.hid s1
  have S2 := Lib.hid s2
  have S3 := Lib.hid s3
  have S4 := Lib.hid s4
  have S6 := Lib.hid s6
  have b5 := s5
  have b7 := s7
  have e0 := b5.cell 0
  have e1 := b5.cell 1
  have e2 := b5.cell 2
  have e3 := b5.cell 3
  have e4 := b5.cell 4
  have e5 := b5.cell 5
  have e6 := b5.cell 6
  have e7 := b5.cell 7
  have e8 := b5.cell 8
  have e9 := b5.cell 9
  have e10 := b5.cell 10
  simp at e0 e1 e2 e3 e4 e5 e6 e7 e8 e9 e10
  have q0 := b7.cell 0
  have q1 := b7.cell 1
  have q2 := b7.cell 2
  have q3 := b7.cell 3
  simp at q0 q1 q2 q3
  clear s1 s2 s3 s4 s5 s6 s7 b5 b7
  have kb := K7.out.kb
  have tb := K7.out.tb
  have y0 := kb.frozen 0
  have y1 := kb.frozen 1
  have y2 := kb.frozen 2
  have y3 := kb.frozen 3
  have y4 := kb.frozen 4
  have y5 := kb.frozen 5
  have y6 := kb.frozen 6
  have y7 := kb.frozen 7
  have y8 := kb.frozen 8
  have y9 := kb.frozen 9
  have y10 := kb.frozen 10
  have z0 := tb.frozen 0
  have z1 := tb.frozen 1
  have z2 := tb.frozen 2
  have z3 := tb.frozen 3
  have kbd := K7.out.kb.drew
  have tbd := K7.out.tb.drew
  have yd0 := kbd.frozen 0
  have yd1 := kbd.frozen 1
  have yd2 := kbd.frozen 2
  have yd3 := kbd.frozen 3
  have yd4 := kbd.frozen 4
  have yd5 := kbd.frozen 5
  have yd6 := kbd.frozen 6
  have yd7 := kbd.frozen 7
  have yd8 := kbd.frozen 8
  have yd9 := kbd.frozen 9
  have yd10 := kbd.frozen 10
  have zd0 := tbd.frozen 0
  have zd1 := tbd.frozen 1
  have zd2 := tbd.frozen 2
  have zd3 := tbd.frozen 3
  have u0 := kb.cell 0
  have u1 := kb.cell 1
  have u2 := kb.cell 2
  have u3 := kb.cell 3
  have u4 := kb.cell 4
  have u5 := kb.cell 5
  have u6 := kb.cell 6
  have u7 := kb.cell 7
  have u8 := kb.cell 8
  have u9 := kb.cell 9
  have u10 := kb.cell 10
  simp at u0 u1 u2 u3 u4 u5 u6 u7 u8 u9 u10
  have v0 := tb.cell 0
  have v1 := tb.cell 1
  have v2 := tb.cell 2
  have v3 := tb.cell 3
  simp at v0 v1 v2 v3
  clear kb tb kbd tbd
  have hm := HM.out
  have WK : Hid (Wrote W7 (((((((((((W7.setCell ⟨w.heap.size, 0, none⟩ (.slice (some ⟨m, 0, none⟩) 1 1)).setCell ⟨w.heap.size, 1, none⟩ (.slice (some ⟨m + 1, 0, none⟩) 6 6)).setCell ⟨w.heap.size, 2, none⟩ (.int .u8 10)).setCell ⟨w.heap.size, 3, none⟩ (.int .i64 0)).setCell ⟨w.heap.size, 4, none⟩ (.int .i64 0)).setCell ⟨w.heap.size, 5, none⟩ (.int .u8 0)).setCell ⟨w.heap.size, 6, none⟩ (.slice none 0 0)).setCell ⟨w.heap.size, 7, none⟩ (.slice none 0 0)).setCell ⟨w.heap.size, 8, none⟩ (.slice none 0 0)).setCell ⟨w.heap.size, 9, none⟩ (.slice (some ⟨m + 1 + 1, 0, none⟩) 2 2)).setCell ⟨w.heap.size, 10, none⟩ (.slice (some ⟨m + 1 + 1 + 1, 0, none⟩) 2 2)) w.heap.size 34 _) := Lib.hid ((((((((((((Wrote.nil K7.out.kb).set_ 0 (.slice (some ⟨m, 0, none⟩) 1 1)).set_ 1 (.slice (some ⟨m + 1, 0, none⟩) 6 6)).set_ 2 (.int .u8 10)).set_ 3 (.int .i64 0)).set_ 4 (.int .i64 0)).set_ 5 (.int .u8 0)).set_ 6 (.slice none 0 0)).set_ 7 (.slice none 0 0)).set_ 8 (.slice none 0 0)).set_ 9 (.slice (some ⟨m + 1 + 1, 0, none⟩) 2 2)).set_ 10 (.slice (some ⟨m + 1 + 1 + 1, 0, none⟩) 2 2))
  have WKd : Hid (Wrote W7 (((((((((((W7.setCell ⟨w.heap.size, 0, none⟩ (.slice (some ⟨m, 0, none⟩) 1 1)).setCell ⟨w.heap.size, 1, none⟩ (.slice (some ⟨m + 1, 0, none⟩) 6 6)).setCell ⟨w.heap.size, 2, none⟩ (.int .u8 10)).setCell ⟨w.heap.size, 3, none⟩ (.int .i64 0)).setCell ⟨w.heap.size, 4, none⟩ (.int .i64 0)).setCell ⟨w.heap.size, 5, none⟩ (.int .u8 0)).setCell ⟨w.heap.size, 6, none⟩ (.slice none 0 0)).setCell ⟨w.heap.size, 7, none⟩ (.slice none 0 0)).setCell ⟨w.heap.size, 8, none⟩ (.slice none 0 0)).setCell ⟨w.heap.size, 9, none⟩ (.slice (some ⟨m + 1 + 1, 0, none⟩) 2 2)).setCell ⟨w.heap.size, 10, none⟩ (.slice (some ⟨m + 1 + 1 + 1, 0, none⟩) 2 2)).drew w.heap.size 34 _) := Lib.hid WK.out.drew
  have WE : Hid (Wrote (((((((((((W7.setCell ⟨w.heap.size, 0, none⟩ (.slice (some ⟨m, 0, none⟩) 1 1)).setCell ⟨w.heap.size, 1, none⟩ (.slice (some ⟨m + 1, 0, none⟩) 6 6)).setCell ⟨w.heap.size, 2, none⟩ (.int .u8 10)).setCell ⟨w.heap.size, 3, none⟩ (.int .i64 0)).setCell ⟨w.heap.size, 4, none⟩ (.int .i64 0)).setCell ⟨w.heap.size, 5, none⟩ (.int .u8 0)).setCell ⟨w.heap.size, 6, none⟩ (.slice none 0 0)).setCell ⟨w.heap.size, 7, none⟩ (.slice none 0 0)).setCell ⟨w.heap.size, 8, none⟩ (.slice none 0 0)).setCell ⟨w.heap.size, 9, none⟩ (.slice (some ⟨m + 1 + 1, 0, none⟩) 2 2)).setCell ⟨w.heap.size, 10, none⟩ (.slice (some ⟨m + 1 + 1 + 1, 0, none⟩) 2 2)) (((((((((((((((W7.setCell ⟨w.heap.size, 0, none⟩ (.slice (some ⟨m, 0, none⟩) 1 1)).setCell ⟨w.heap.size, 1, none⟩ (.slice (some ⟨m + 1, 0, none⟩) 6 6)).setCell ⟨w.heap.size, 2, none⟩ (.int .u8 10)).setCell ⟨w.heap.size, 3, none⟩ (.int .i64 0)).setCell ⟨w.heap.size, 4, none⟩ (.int .i64 0)).setCell ⟨w.heap.size, 5, none⟩ (.int .u8 0)).setCell ⟨w.heap.size, 6, none⟩ (.slice none 0 0)).setCell ⟨w.heap.size, 7, none⟩ (.slice none 0 0)).setCell ⟨w.heap.size, 8, none⟩ (.slice none 0 0)).setCell ⟨w.heap.size, 9, none⟩ (.slice (some ⟨m + 1 + 1, 0, none⟩) 2 2)).setCell ⟨w.heap.size, 10, none⟩ (.slice (some ⟨m + 1 + 1 + 1, 0, none⟩) 2 2)).setCell ⟨w.heap.size + 1, 0, none⟩ (.int .i64 2)).setCell ⟨w.heap.size + 1, 1, none⟩ (.slice (some ⟨m + 1 + 1 + 1 + 1 + 1, 0, none⟩) 2 2)).setCell ⟨w.heap.size + 1, 2, none⟩ (.int .i64 0)).setCell ⟨w.heap.size + 1, 3, none⟩ (.int .i64 0)).drew (w.heap.size + 1) 40 _) := Lib.hid (((((Wrote.nil (WK.out.other _ _ _ (by omega) K7.out.tb)).set_ 0 (.int .i64 2)).set_ 1 (.slice (some ⟨m + 1 + 1 + 1 + 1 + 1, 0, none⟩) 2 2)).set_ 2 (.int .i64 0)).set_ 3 (.int .i64 0)).drew
  have S0 : (∀ o, W7.drew.cell? ⟨m + 1 + 1 + 1 + 1, o, none⟩ = W7.cell? ⟨m + 1 + 1 + 1 + 1, o, none⟩) ∧ (∀ o, W7.drew.cell? ⟨m + 1 + 1 + 1 + 1 + 1 + 1, o, none⟩ = W7.cell? ⟨m + 1 + 1 + 1 + 1 + 1 + 1, o, none⟩) := ⟨fun _ => rfl, fun _ => rfl⟩
  have SK : (∀ o, (((((((((((W7.setCell ⟨w.heap.size, 0, none⟩ (.slice (some ⟨m, 0, none⟩) 1 1)).setCell ⟨w.heap.size, 1, none⟩ (.slice (some ⟨m + 1, 0, none⟩) 6 6)).setCell ⟨w.heap.size, 2, none⟩ (.int .u8 10)).setCell ⟨w.heap.size, 3, none⟩ (.int .i64 0)).setCell ⟨w.heap.size, 4, none⟩ (.int .i64 0)).setCell ⟨w.heap.size, 5, none⟩ (.int .u8 0)).setCell ⟨w.heap.size, 6, none⟩ (.slice none 0 0)).setCell ⟨w.heap.size, 7, none⟩ (.slice none 0 0)).setCell ⟨w.heap.size, 8, none⟩ (.slice none 0 0)).setCell ⟨w.heap.size, 9, none⟩ (.slice (some ⟨m + 1 + 1, 0, none⟩) 2 2)).setCell ⟨w.heap.size, 10, none⟩ (.slice (some ⟨m + 1 + 1 + 1, 0, none⟩) 2 2)).drew.cell? ⟨m + 1 + 1 + 1 + 1, o, none⟩ = W7.cell? ⟨m + 1 + 1 + 1 + 1, o, none⟩) ∧ (∀ o, (((((((((((W7.setCell ⟨w.heap.size, 0, none⟩ (.slice (some ⟨m, 0, none⟩) 1 1)).setCell ⟨w.heap.size, 1, none⟩ (.slice (some ⟨m + 1, 0, none⟩) 6 6)).setCell ⟨w.heap.size, 2, none⟩ (.int .u8 10)).setCell ⟨w.heap.size, 3, none⟩ (.int .i64 0)).setCell ⟨w.heap.size, 4, none⟩ (.int .i64 0)).setCell ⟨w.heap.size, 5, none⟩ (.int .u8 0)).setCell ⟨w.heap.size, 6, none⟩ (.slice none 0 0)).setCell ⟨w.heap.size, 7, none⟩ (.slice none 0 0)).setCell ⟨w.heap.size, 8, none⟩ (.slice none 0 0)).setCell ⟨w.heap.size, 9, none⟩ (.slice (some ⟨m + 1 + 1, 0, none⟩) 2 2)).setCell ⟨w.heap.size, 10, none⟩ (.slice (some ⟨m + 1 + 1 + 1, 0, none⟩) 2 2)).drew.cell? ⟨m + 1 + 1 + 1 + 1 + 1 + 1, o, none⟩ = W7.cell? ⟨m + 1 + 1 + 1 + 1 + 1 + 1, o, none⟩) := ⟨fun o => WKd.out.far ⟨m + 1 + 1 + 1 + 1, o, none⟩ (by show m + 1 + 1 + 1 + 1 ≠ w.heap.size; omega), fun o => WKd.out.far ⟨m + 1 + 1 + 1 + 1 + 1 + 1, o, none⟩ (by show m + 1 + 1 + 1 + 1 + 1 + 1 ≠ w.heap.size; omega)⟩
  have ST : (∀ o, (((((((((((((((W7.setCell ⟨w.heap.size, 0, none⟩ (.slice (some ⟨m, 0, none⟩) 1 1)).setCell ⟨w.heap.size, 1, none⟩ (.slice (some ⟨m + 1, 0, none⟩) 6 6)).setCell ⟨w.heap.size, 2, none⟩ (.int .u8 10)).setCell ⟨w.heap.size, 3, none⟩ (.int .i64 0)).setCell ⟨w.heap.size, 4, none⟩ (.int .i64 0)).setCell ⟨w.heap.size, 5, none⟩ (.int .u8 0)).setCell ⟨w.heap.size, 6, none⟩ (.slice none 0 0)).setCell ⟨w.heap.size, 7, none⟩ (.slice none 0 0)).setCell ⟨w.heap.size, 8, none⟩ (.slice none 0 0)).setCell ⟨w.heap.size, 9, none⟩ (.slice (some ⟨m + 1 + 1, 0, none⟩) 2 2)).setCell ⟨w.heap.size, 10, none⟩ (.slice (some ⟨m + 1 + 1 + 1, 0, none⟩) 2 2)).setCell ⟨w.heap.size + 1, 0, none⟩ (.int .i64 2)).setCell ⟨w.heap.size + 1, 1, none⟩ (.slice (some ⟨m + 1 + 1 + 1 + 1 + 1, 0, none⟩) 2 2)).setCell ⟨w.heap.size + 1, 2, none⟩ (.int .i64 0)).setCell ⟨w.heap.size + 1, 3, none⟩ (.int .i64 0)).drew.cell? ⟨m + 1 + 1 + 1 + 1, o, none⟩ = W7.cell? ⟨m + 1 + 1 + 1 + 1, o, none⟩) ∧ (∀ o, (((((((((((((((W7.setCell ⟨w.heap.size, 0, none⟩ (.slice (some ⟨m, 0, none⟩) 1 1)).setCell ⟨w.heap.size, 1, none⟩ (.slice (some ⟨m + 1, 0, none⟩) 6 6)).setCell ⟨w.heap.size, 2, none⟩ (.int .u8 10)).setCell ⟨w.heap.size, 3, none⟩ (.int .i64 0)).setCell ⟨w.heap.size, 4, none⟩ (.int .i64 0)).setCell ⟨w.heap.size, 5, none⟩ (.int .u8 0)).setCell ⟨w.heap.size, 6, none⟩ (.slice none 0 0)).setCell ⟨w.heap.size, 7, none⟩ (.slice none 0 0)).setCell ⟨w.heap.size, 8, none⟩ (.slice none 0 0)).setCell ⟨w.heap.size, 9, none⟩ (.slice (some ⟨m + 1 + 1, 0, none⟩) 2 2)).setCell ⟨w.heap.size, 10, none⟩ (.slice (some ⟨m + 1 + 1 + 1, 0, none⟩) 2 2)).setCell ⟨w.heap.size + 1, 0, none⟩ (.int .i64 2)).setCell ⟨w.heap.size + 1, 1, none⟩ (.slice (some ⟨m + 1 + 1 + 1 + 1 + 1, 0, none⟩) 2 2)).setCell ⟨w.heap.size + 1, 2, none⟩ (.int .i64 0)).setCell ⟨w.heap.size + 1, 3, none⟩ (.int .i64 0)).drew.cell? ⟨m + 1 + 1 + 1 + 1 + 1 + 1, o, none⟩ = W7.cell? ⟨m + 1 + 1 + 1 + 1 + 1 + 1, o, none⟩) := ⟨fun o => (WE.out.far ⟨m + 1 + 1 + 1 + 1, o, none⟩ (by show m + 1 + 1 + 1 + 1 ≠ w.heap.size + 1; omega)).trans (WK.out.far ⟨m + 1 + 1 + 1 + 1, o, none⟩ (by show m + 1 + 1 + 1 + 1 ≠ w.heap.size; omega)), fun o => (WE.out.far ⟨m + 1 + 1 + 1 + 1 + 1 + 1, o, none⟩ (by show m + 1 + 1 + 1 + 1 + 1 + 1 ≠ w.heap.size + 1; omega)).trans (WK.out.far ⟨m + 1 + 1 + 1 + 1 + 1 + 1, o, none⟩ (by show m + 1 + 1 + 1 + 1 + 1 + 1 ≠ w.heap.size; omega))⟩
  go_region_held3 (fun w' => (∀ o, w'.cell? ⟨m + 1 + 1 + 1 + 1, o, none⟩ = W7.cell? ⟨m + 1 + 1 + 1 + 1, o, none⟩) ∧ (∀ o, w'.cell? ⟨m + 1 + 1 + 1 + 1 + 1 + 1, o, none⟩ = W7.cell? ⟨m + 1 + 1 + 1 + 1 + 1 + 1, o, none⟩)) (first | with_reducible exact S0 | with_reducible exact SK | with_reducible exact ST) (fail)
  have HZ : Hid ((((((((((((((((W7.setCell ⟨w.heap.size, 0, none⟩ (.slice (some ⟨m, 0, none⟩) 1 1)).setCell ⟨w.heap.size, 1, none⟩ (.slice (some ⟨m + 1, 0, none⟩) 6 6)).setCell ⟨w.heap.size, 2, none⟩ (.int .u8 10)).setCell ⟨w.heap.size, 3, none⟩ (.int .i64 0)).setCell ⟨w.heap.size, 4, none⟩ (.int .i64 0)).setCell ⟨w.heap.size, 5, none⟩ (.int .u8 0)).setCell ⟨w.heap.size, 6, none⟩ (.slice none 0 0)).setCell ⟨w.heap.size, 7, none⟩ (.slice none 0 0)).setCell ⟨w.heap.size, 8, none⟩ (.slice none 0 0)).setCell ⟨w.heap.size, 9, none⟩ (.slice (some ⟨m + 1 + 1, 0, none⟩) 2 2)).setCell ⟨w.heap.size, 10, none⟩ (.slice (some ⟨m + 1 + 1 + 1, 0, none⟩) 2 2)).setCell ⟨w.heap.size + 1, 0, none⟩ (.int .i64 2)).setCell ⟨w.heap.size + 1, 1, none⟩ (.slice (some ⟨m + 1 + 1 + 1 + 1 + 1, 0, none⟩) 2 2)).setCell ⟨w.heap.size + 1, 2, none⟩ (.int .i64 0)).setCell ⟨w.heap.size + 1, 3, none⟩ (.int .i64 0)).drew.heap.size = W7.heap.size) := Lib.hid (WE.out.size.trans WK.out.size)
  have HF : Hid (∀ a : Addr, w.heap.size + 2 ≤ a.block → (((((((((((((((W7.setCell ⟨w.heap.size, 0, none⟩ (.slice (some ⟨m, 0, none⟩) 1 1)).setCell ⟨w.heap.size, 1, none⟩ (.slice (some ⟨m + 1, 0, none⟩) 6 6)).setCell ⟨w.heap.size, 2, none⟩ (.int .u8 10)).setCell ⟨w.heap.size, 3, none⟩ (.int .i64 0)).setCell ⟨w.heap.size, 4, none⟩ (.int .i64 0)).setCell ⟨w.heap.size, 5, none⟩ (.int .u8 0)).setCell ⟨w.heap.size, 6, none⟩ (.slice none 0 0)).setCell ⟨w.heap.size, 7, none⟩ (.slice none 0 0)).setCell ⟨w.heap.size, 8, none⟩ (.slice none 0 0)).setCell ⟨w.heap.size, 9, none⟩ (.slice (some ⟨m + 1 + 1, 0, none⟩) 2 2)).setCell ⟨w.heap.size, 10, none⟩ (.slice (some ⟨m + 1 + 1 + 1, 0, none⟩) 2 2)).setCell ⟨w.heap.size + 1, 0, none⟩ (.int .i64 2)).setCell ⟨w.heap.size + 1, 1, none⟩ (.slice (some ⟨m + 1 + 1 + 1 + 1 + 1, 0, none⟩) 2 2)).setCell ⟨w.heap.size + 1, 2, none⟩ (.int .i64 0)).setCell ⟨w.heap.size + 1, 3, none⟩ (.int .i64 0)).drew.cell? a = W7.cell? a) := Lib.hid (fun a ha => (WE.out.far a (by omega)).trans (WK.out.far a (by omega)))
  have HB : Hid (Below w.heap.size w (((((((((((((((W7.setCell ⟨w.heap.size, 0, none⟩ (.slice (some ⟨m, 0, none⟩) 1 1)).setCell ⟨w.heap.size, 1, none⟩ (.slice (some ⟨m + 1, 0, none⟩) 6 6)).setCell ⟨w.heap.size, 2, none⟩ (.int .u8 10)).setCell ⟨w.heap.size, 3, none⟩ (.int .i64 0)).setCell ⟨w.heap.size, 4, none⟩ (.int .i64 0)).setCell ⟨w.heap.size, 5, none⟩ (.int .u8 0)).setCell ⟨w.heap.size, 6, none⟩ (.slice none 0 0)).setCell ⟨w.heap.size, 7, none⟩ (.slice none 0 0)).setCell ⟨w.heap.size, 8, none⟩ (.slice none 0 0)).setCell ⟨w.heap.size, 9, none⟩ (.slice (some ⟨m + 1 + 1, 0, none⟩) 2 2)).setCell ⟨w.heap.size, 10, none⟩ (.slice (some ⟨m + 1 + 1 + 1, 0, none⟩) 2 2)).setCell ⟨w.heap.size + 1, 0, none⟩ (.int .i64 2)).setCell ⟨w.heap.size + 1, 1, none⟩ (.slice (some ⟨m + 1 + 1 + 1 + 1 + 1, 0, none⟩) 2 2)).setCell ⟨w.heap.size + 1, 2, none⟩ (.int .i64 0)).setCell ⟨w.heap.size + 1, 3, none⟩ (.int .i64 0)).drew) := Lib.hid (WE.out.below _ _ (by omega) (WK.out.below _ _ (Nat.le_refl _) K7.out.bel))
  have HKB := (WE.out.other _ _ _ (by omega) WK.out.blk)
  have HTB := WE.out.blk
  simp only [List.setIfInBounds_toArray, List.set_cons_zero, List.set_cons_succ] at HKB HTB
  replace HKB := Lib.hid HKB
  replace HTB := Lib.hid HTB
  clear S0 SK ST WK WE WKd y0 y1 y2 y3 y4 y5 y6 y7 y8 y9 y10 yd0 yd1 yd2 yd3 yd4 yd5 yd6 yd7 yd8 yd9 yd10 z0 z1 z2 z3 zd0 zd1 zd2 zd3 u0 u1 u2 u3 u4 u5 u6 u7 u8 u9 u10 v0 v1 v2 v3 e0 e1 e2 e3 e4 e5 e6 e7 e8 e9 e10 q0 q1 q2 q3
  generalize (((((((((((((((W7.setCell ⟨w.heap.size, 0, none⟩ (.slice (some ⟨m, 0, none⟩) 1 1)).setCell ⟨w.heap.size, 1, none⟩ (.slice (some ⟨m + 1, 0, none⟩) 6 6)).setCell ⟨w.heap.size, 2, none⟩ (.int .u8 10)).setCell ⟨w.heap.size, 3, none⟩ (.int .i64 0)).setCell ⟨w.heap.size, 4, none⟩ (.int .i64 0)).setCell ⟨w.heap.size, 5, none⟩ (.int .u8 0)).setCell ⟨w.heap.size, 6, none⟩ (.slice none 0 0)).setCell ⟨w.heap.size, 7, none⟩ (.slice none 0 0)).setCell ⟨w.heap.size, 8, none⟩ (.slice none 0 0)).setCell ⟨w.heap.size, 9, none⟩ (.slice (some ⟨m + 1 + 1, 0, none⟩) 2 2)).setCell ⟨w.heap.size, 10, none⟩ (.slice (some ⟨m + 1 + 1 + 1, 0, none⟩) 2 2)).setCell ⟨w.heap.size + 1, 0, none⟩ (.int .i64 2)).setCell ⟨w.heap.size + 1, 1, none⟩ (.slice (some ⟨m + 1 + 1 + 1 + 1 + 1, 0, none⟩) 2 2)).setCell ⟨w.heap.size + 1, 2, none⟩ (.int .i64 0)).setCell ⟨w.heap.size + 1, 3, none⟩ (.int .i64 0)).drew = wx at *
  go_wp2
  refine bodyPost_ret (v := .tuple #[.agg #[.slice (some ⟨m, 0, none⟩) 1 1, .slice (some ⟨m + 1, 0, none⟩) 6 6, .int .u8 10, .int .i64 0, .int .i64 0, .int .u8 0, .slice none 0 0, .slice none 0 0, .slice none 0 0, .slice (some ⟨m + 1 + 1, 0, none⟩) 2 2, .slice (some ⟨m + 1 + 1 + 1, 0, none⟩) 2 2], .agg #[.int .i64 2, .slice (some ⟨m + 1 + 1 + 1 + 1 + 1, 0, none⟩) 2 2, .int .i64 0, .int .i64 0]]) (results_cell_cell rfl _ _ _ rfl rfl (run_loadVar_row _ _ _ _ _ _ _ HKB.out Try.underlying34 rfl kernel_size) (run_loadVar_row _ _ _ _ _ _ _ HTB.out Try.underlying40 rfl topo_size)) rfl ?_
  have h3 := S3.out
  have h12 := RA7.out
  have h13 := RB7.out
  have hz := HZ.out
  refine sm_fin false (a := 4) (b := 3) (C0 := C0) (C1 := C1) (C2 := C2) (C3 := C3) (C4 := C4) (C5 := C5) (C6 := C6) (C7 := none) (C8 := none) (A12 := some ⟨g1, 0, none⟩) (A13 := some ⟨g2, 0, none⟩) HB.out (fun p hp => ?_) (reads_kept hz HF.out S1.out hm rfl) (reads_kept hz HF.out S2.out (by omega) rfl) (reads_kept (n := 2) (size := 8) hz HF.out h3 (by omega) rfl) (reads_far hz HF.out h12 Hg1.out) (reads_far hz HF.out h13 Hg2.out) (reads_kept hz HF.out S4.out (by omega) rfl) (reads_kept (n := 2) (size := 4) hz HF.out S6.out (by omega) rfl)
  simp [smA, smB, smF] at hp
  have hq := K7.out.ps p (by simp; exact hp) wx (by omega) (fun a ha _ => HF.out a (K7.out.lo _ ha))
  rw [hz]
  exact hq
set_option maxRecDepth 100000 in
set_option maxHeartbeats 8000000 in
theorem lSample_yes (w : World) : Calls Try.prog 19 #[.bool true] w (RetSm true w) := by
  have HO := Lib.hid (fun (c : Int) (hc : i64ok c) (w1 : World) => lOut c hc w1)
  have HI := Lib.hid (fun (c : Int) (hc : i64ok c) (w1 : World) => lIn c hc w1)
  obtain ⟨W0, hW0⟩ : ∃ W, (w.alloc (.cells #[.slice none 0 0, .slice none 0 0, .int .u8 0, .int .i64 0, .int .i64 0, .int .u8 0, .slice none 0 0, .slice none 0 0, .slice none 0 0, .slice none 0 0, .slice none 0 0] 34)).alloc (.cells #[.int .i64 0, .slice none 0 0, .int .i64 0, .int .i64 0] 40) = W := ⟨_, rfl⟩
  obtain ⟨l1, l2, l3⟩ := lay2 w #[.slice none 0 0, .slice none 0 0, .int .u8 0, .int .i64 0, .int .i64 0, .int .u8 0, .slice none 0 0, .slice none 0 0, .slice none 0 0, .slice none 0 0, .slice none 0 0] #[.int .i64 0, .slice none 0 0, .int .i64 0, .int .i64 0] 34 40
  have hz0 : W0.heap.size = w.heap.size + 2 := by rw [← hW0]; simp
  rw [hW0] at l1 l2 l3
  have K := Lib.hid (SmS.mk (S := fun x => w.heap.size + 2 ≤ x) l1 l2 l3 (fun x hx => hx) (fun x hx => by omega) (l := []) (fun p hp => by cases hp))
  clear l1 l2 l3 hz0
  go_enter Try.func19, Try.ntmps19
  go_upto_region 1 with fail
  clear hW0
  go_upto_region 2 with (first
      | (go_at_call 31; refine (HO.out _ (i64s rfl) _).mono ?_; rintro e w1 ⟨hb1, A1, he, hin1⟩
         simp [outP, KP.cells] at he
         subst he
         replace K := Lib.hid (K.out.push hb1 hin1)
         clear hb1 hin1)
      | (go_at_call 32; refine (HI.out _ (i64s rfl) _).mono ?_; rintro e w1 ⟨hb1, A1, he, hin1⟩
         simp [inP, KP.cells] at he
         subst he
         replace K := Lib.hid (K.out.push hb1 hin1)
         clear hb1 hin1))
  rename_i x1 C0 x2 C1 x3 C2 Kx ax
  obtain ⟨C3, rfl⟩ : ∃ q, q = A1 := ⟨_, rfl⟩
  obtain ⟨w4, rfl⟩ : ∃ q, q = w1 := ⟨_, rfl⟩
  obtain ⟨W1, hW1⟩ : ∃ W, (w4.alloc (.cells #[.int .u8 6, .int .i64 2, .int .i64 0, .int .u8 1, .slice none 0 0, .slice C0 1 1, .slice none 0 0, .slice none 0 0, .int .u8 6, .int .i64 3, .int .i64 0, .int .u8 1, .slice none 0 0, .slice C1 1 1, .slice none 0 0, .slice none 0 0, .int .u8 6, .int .i64 1, .int .i64 0, .int .u8 1, .slice none 0 0, .slice C2 1 1, .slice none 0 0, .slice none 0 0, .int .u8 5, .int .i64 4, .int .i64 0, .int .u8 1, .slice C3 1 1, .slice none 0 0, .slice none 0 0, .slice none 0 0] 31)).alloc (.cells #[.int .u8 9, .int .i64 0, .int .i64 0, .int .u8 0, .slice none 0 0, .slice none 0 0, .slice none 0 0, .slice (some ⟨w4.heap.size, 0, none⟩) 4 4] 31) = W := ⟨_, rfl⟩
  have RA := Lib.hid ((Blk.new w4 31 #[.int .u8 6, .int .i64 2, .int .i64 0, .int .u8 1, .slice none 0 0, .slice C0 1 1, .slice none 0 0, .slice none 0 0, .int .u8 6, .int .i64 3, .int .i64 0, .int .u8 1, .slice none 0 0, .slice C1 1 1, .slice none 0 0, .slice none 0 0, .int .u8 6, .int .i64 1, .int .i64 0, .int .u8 1, .slice none 0 0, .slice C2 1 1, .slice none 0 0, .slice none 0 0, .int .u8 5, .int .i64 4, .int .i64 0, .int .u8 1, .slice C3 1 1, .slice none 0 0, .slice none 0 0, .slice none 0 0]).alloc (.cells #[.int .u8 9, .int .i64 0, .int .i64 0, .int .u8 0, .slice none 0 0, .slice none 0 0, .slice none 0 0, .slice (some ⟨w4.heap.size, 0, none⟩) 4 4] 31))
  have BA := Lib.hid (Blk.new (w4.alloc (.cells #[.int .u8 6, .int .i64 2, .int .i64 0, .int .u8 1, .slice none 0 0, .slice C0 1 1, .slice none 0 0, .slice none 0 0, .int .u8 6, .int .i64 3, .int .i64 0, .int .u8 1, .slice none 0 0, .slice C1 1 1, .slice none 0 0, .slice none 0 0, .int .u8 6, .int .i64 1, .int .i64 0, .int .u8 1, .slice none 0 0, .slice C2 1 1, .slice none 0 0, .slice none 0 0, .int .u8 5, .int .i64 4, .int .i64 0, .int .u8 1, .slice C3 1 1, .slice none 0 0, .slice none 0 0, .slice none 0 0] 31)) 31 #[.int .u8 9, .int .i64 0, .int .i64 0, .int .u8 0, .slice none 0 0, .slice none 0 0, .slice none 0 0, .slice (some ⟨w4.heap.size, 0, none⟩) 4 4])
  have hbt : Below w4.heap.size w4 ((w4.alloc (.cells #[.int .u8 6, .int .i64 2, .int .i64 0, .int .u8 1, .slice none 0 0, .slice C0 1 1, .slice none 0 0, .slice none 0 0, .int .u8 6, .int .i64 3, .int .i64 0, .int .u8 1, .slice none 0 0, .slice C1 1 1, .slice none 0 0, .slice none 0 0, .int .u8 6, .int .i64 1, .int .i64 0, .int .u8 1, .slice none 0 0, .slice C2 1 1, .slice none 0 0, .slice none 0 0, .int .u8 5, .int .i64 4, .int .i64 0, .int .u8 1, .slice C3 1 1, .slice none 0 0, .slice none 0 0, .slice none 0 0] 31)).alloc (.cells #[.int .u8 9, .int .i64 0, .int .i64 0, .int .u8 0, .slice none 0 0, .slice none 0 0, .slice none 0 0, .slice (some ⟨w4.heap.size, 0, none⟩) 4 4] 31)) := ((Below.refl _ _).alloc (Nat.le_refl _) _).alloc (by simp) _
  replace K := Lib.hid (And.intro K.out.tb.lt (K.out.two (.cells #[.int .u8 6, .int .i64 2, .int .i64 0, .int .u8 1, .slice none 0 0, .slice C0 1 1, .slice none 0 0, .slice none 0 0, .int .u8 6, .int .i64 3, .int .i64 0, .int .u8 1, .slice none 0 0, .slice C1 1 1, .slice none 0 0, .slice none 0 0, .int .u8 6, .int .i64 1, .int .i64 0, .int .u8 1, .slice none 0 0, .slice C2 1 1, .slice none 0 0, .slice none 0 0, .int .u8 5, .int .i64 4, .int .i64 0, .int .u8 1, .slice C3 1 1, .slice none 0 0, .slice none 0 0, .slice none 0 0] 31) (.cells #[.int .u8 9, .int .i64 0, .int .i64 0, .int .u8 0, .slice none 0 0, .slice none 0 0, .slice none 0 0, .slice (some ⟨w4.heap.size, 0, none⟩) 4 4] 31)))
  have eW1 : (w4.alloc (.cells #[.int .u8 6, .int .i64 2, .int .i64 0, .int .u8 1, .slice none 0 0, .slice C0 1 1, .slice none 0 0, .slice none 0 0, .int .u8 6, .int .i64 3, .int .i64 0, .int .u8 1, .slice none 0 0, .slice C1 1 1, .slice none 0 0, .slice none 0 0, .int .u8 6, .int .i64 1, .int .i64 0, .int .u8 1, .slice none 0 0, .slice C2 1 1, .slice none 0 0, .slice none 0 0, .int .u8 5, .int .i64 4, .int .i64 0, .int .u8 1, .slice C3 1 1, .slice none 0 0, .slice none 0 0, .slice none 0 0] 31)).heap.size = w4.heap.size + 1 := by simp
  rw [eW1] at BA
  rw [hW1] at RA BA K hbt ⊢

  have Hg1 : Hid (w.heap.size + 2 ≤ w4.heap.size) := Lib.hid (by have := K.out.1; omega)
  replace K := Lib.hid K.out.2
  clear hW1 eW1 hbt
  generalize w4.heap.size = g1 at *
  go_upto_region 3 with (first
      | (go_at_call 31; refine (HO.out _ (i64s rfl) _).mono ?_; rintro e w1 ⟨hb1, A1, he, hin1⟩
         simp [outP, KP.cells] at he
         subst he
         replace RA := Lib.hid (RA.out.call hb1)
         replace BA := Lib.hid (BA.out.call hb1)
         replace K := Lib.hid (K.out.push hb1 hin1)
         clear hb1 hin1)
      | (go_at_call 32; refine (HI.out _ (i64s rfl) _).mono ?_; rintro e w1 ⟨hb1, A1, he, hin1⟩
         simp [inP, KP.cells] at he
         subst he
         replace RA := Lib.hid (RA.out.call hb1)
         replace BA := Lib.hid (BA.out.call hb1)
         replace K := Lib.hid (K.out.push hb1 hin1)
         clear hb1 hin1))
  rename_i x4 C4 x5 C5 Ky ay Kz az
  obtain ⟨C6, rfl⟩ : ∃ q, q = A1 := ⟨_, rfl⟩
  obtain ⟨w7, rfl⟩ : ∃ q, q = w1 := ⟨_, rfl⟩
  have H12a : g1 + 1 < w7.heap.size := BA.out.lt
  obtain ⟨W2, hW2⟩ : ∃ W, (w7.alloc (.cells #[.int .u8 5, .int .i64 2, .int .i64 0, .int .u8 1, .slice C4 1 1, .slice none 0 0, .slice none 0 0, .slice none 0 0, .int .u8 5, .int .i64 3, .int .i64 0, .int .u8 1, .slice C5 1 1, .slice none 0 0, .slice none 0 0, .slice none 0 0, .int .u8 6, .int .i64 4, .int .i64 0, .int .u8 1, .slice none 0 0, .slice C6 1 1, .slice none 0 0, .slice none 0 0] 31)).alloc (.cells #[.int .u8 9, .int .i64 0, .int .i64 0, .int .u8 0, .slice none 0 0, .slice none 0 0, .slice none 0 0, .slice (some ⟨w7.heap.size, 0, none⟩) 3 3] 31) = W := ⟨_, rfl⟩
  have RB := Lib.hid ((Blk.new w7 31 #[.int .u8 5, .int .i64 2, .int .i64 0, .int .u8 1, .slice C4 1 1, .slice none 0 0, .slice none 0 0, .slice none 0 0, .int .u8 5, .int .i64 3, .int .i64 0, .int .u8 1, .slice C5 1 1, .slice none 0 0, .slice none 0 0, .slice none 0 0, .int .u8 6, .int .i64 4, .int .i64 0, .int .u8 1, .slice none 0 0, .slice C6 1 1, .slice none 0 0, .slice none 0 0]).alloc (.cells #[.int .u8 9, .int .i64 0, .int .i64 0, .int .u8 0, .slice none 0 0, .slice none 0 0, .slice none 0 0, .slice (some ⟨w7.heap.size, 0, none⟩) 3 3] 31))
  have BB := Lib.hid (Blk.new (w7.alloc (.cells #[.int .u8 5, .int .i64 2, .int .i64 0, .int .u8 1, .slice C4 1 1, .slice none 0 0, .slice none 0 0, .slice none 0 0, .int .u8 5, .int .i64 3, .int .i64 0, .int .u8 1, .slice C5 1 1, .slice none 0 0, .slice none 0 0, .slice none 0 0, .int .u8 6, .int .i64 4, .int .i64 0, .int .u8 1, .slice none 0 0, .slice C6 1 1, .slice none 0 0, .slice none 0 0] 31)) 31 #[.int .u8 9, .int .i64 0, .int .i64 0, .int .u8 0, .slice none 0 0, .slice none 0 0, .slice none 0 0, .slice (some ⟨w7.heap.size, 0, none⟩) 3 3])
  have hbt : Below w7.heap.size w7 ((w7.alloc (.cells #[.int .u8 5, .int .i64 2, .int .i64 0, .int .u8 1, .slice C4 1 1, .slice none 0 0, .slice none 0 0, .slice none 0 0, .int .u8 5, .int .i64 3, .int .i64 0, .int .u8 1, .slice C5 1 1, .slice none 0 0, .slice none 0 0, .slice none 0 0, .int .u8 6, .int .i64 4, .int .i64 0, .int .u8 1, .slice none 0 0, .slice C6 1 1, .slice none 0 0, .slice none 0 0] 31)).alloc (.cells #[.int .u8 9, .int .i64 0, .int .i64 0, .int .u8 0, .slice none 0 0, .slice none 0 0, .slice none 0 0, .slice (some ⟨w7.heap.size, 0, none⟩) 3 3] 31)) := ((Below.refl _ _).alloc (Nat.le_refl _) _).alloc (by simp) _
  replace K := Lib.hid (And.intro K.out.tb.lt (K.out.two (.cells #[.int .u8 5, .int .i64 2, .int .i64 0, .int .u8 1, .slice C4 1 1, .slice none 0 0, .slice none 0 0, .slice none 0 0, .int .u8 5, .int .i64 3, .int .i64 0, .int .u8 1, .slice C5 1 1, .slice none 0 0, .slice none 0 0, .slice none 0 0, .int .u8 6, .int .i64 4, .int .i64 0, .int .u8 1, .slice none 0 0, .slice C6 1 1, .slice none 0 0, .slice none 0 0] 31) (.cells #[.int .u8 9, .int .i64 0, .int .i64 0, .int .u8 0, .slice none 0 0, .slice none 0 0, .slice none 0 0, .slice (some ⟨w7.heap.size, 0, none⟩) 3 3] 31)))
  have eW2 : (w7.alloc (.cells #[.int .u8 5, .int .i64 2, .int .i64 0, .int .u8 1, .slice C4 1 1, .slice none 0 0, .slice none 0 0, .slice none 0 0, .int .u8 5, .int .i64 3, .int .i64 0, .int .u8 1, .slice C5 1 1, .slice none 0 0, .slice none 0 0, .slice none 0 0, .int .u8 6, .int .i64 4, .int .i64 0, .int .u8 1, .slice none 0 0, .slice C6 1 1, .slice none 0 0, .slice none 0 0] 31)).heap.size = w7.heap.size + 1 := by simp
  rw [eW2] at BB
  rw [hW2] at RB BB K hbt ⊢
  replace RA := Lib.hid (RA.out.call hbt)
  replace BA := Lib.hid (BA.out.call hbt)
  have H12 : Hid (g1 + 1 < w7.heap.size) := Lib.hid (by have := H12a; omega)
  have Hg2 : Hid (w.heap.size + 2 ≤ w7.heap.size) := Lib.hid (by have := K.out.1; omega)
  replace K := Lib.hid K.out.2
  clear hW2 eW2 hbt H12a
  generalize w7.heap.size = g2 at *
  obtain ⟨i0, hi0, hz0, hz1, hz2⟩ := info_parts kproc_info
  go_upto_region 4 with fail
  have b1 := BA.out
  have b2 := BA.out.drew
  have e7 := b1.cell 7
  have d7 := b2.cell 7
  have f7 := b1.frozen 7
  have k7 := b2.frozen 7
  simp at e7 d7
  have OZ := Lib.hid (own_blk (base := w.heap.size + 2) (n := 4) (size := 8) RA.out Hg1.out rfl (by decide) (by decide)).drew'
  clear b1 b2
  go_cut [19] (fun s19 wx => s19 = .bool true ∧ ∃ (h1 d1 : Nat) (C7 : Option Addr), Hid (SmS w wx #[.slice none 0 0, .slice none 0 0, .int .u8 0, .int .i64 0, .int .i64 0, .int .u8 0, .slice none 0 0, .slice none 0 0, .slice none 0 0, .slice none 0 0, .slice none 0 0] #[.int .i64 0, .slice none 0 0, .int .i64 0, .int .i64 0] (fun x => (w.heap.size + 2 ≤ x ∧ x ≠ g1 ∧ x ≠ g1 + 1) ∧ x ≠ g2 ∧ x ≠ g2 + 1) ([] ++ [outP C0 2] ++ [outP C1 3] ++ [outP C2 1] ++ [inP C3 4] ++ [inP C4 2] ++ [inP C5 3] ++ [outP C6 4] ++ [outP C7 5])) ∧ Hid (wx.ownsRow (w.heap.size + 2) 31 8 (.slice (some ⟨h1, 0, none⟩) 5 d1) 5 (#[.int .u8 6, .int .i64 2, .int .i64 0, .int .u8 1, .slice none 0 0, .slice C0 1 1, .slice none 0 0, .slice none 0 0, .int .u8 6, .int .i64 3, .int .i64 0, .int .u8 1, .slice none 0 0, .slice C1 1 1, .slice none 0 0, .slice none 0 0, .int .u8 6, .int .i64 1, .int .i64 0, .int .u8 1, .slice none 0 0, .slice C2 1 1, .slice none 0 0, .slice none 0 0, .int .u8 5, .int .i64 4, .int .i64 0, .int .u8 1, .slice C3 1 1, .slice none 0 0, .slice none 0 0, .slice none 0 0, .int .u8 6, .int .i64 5, .int .i64 0, .int .u8 1, .slice none 0 0, .slice C7 1 1, .slice none 0 0, .slice none 0 0] : Array Value).toList) ∧ Hid (Blk wx (g1 + 1) 31 #[.int .u8 9, .int .i64 0, .int .i64 0, .int .u8 0, .slice none 0 0, .slice none 0 0, .slice none 0 0, .slice (some ⟨h1, 0, none⟩) 5 d1]) ∧ Hid (Blk wx g2 31 #[.int .u8 5, .int .i64 2, .int .i64 0, .int .u8 1, .slice C4 1 1, .slice none 0 0, .slice none 0 0, .slice none 0 0, .int .u8 5, .int .i64 3, .int .i64 0, .int .u8 1, .slice C5 1 1, .slice none 0 0, .slice none 0 0, .slice none 0 0, .int .u8 6, .int .i64 4, .int .i64 0, .int .u8 1, .slice none 0 0, .slice C6 1 1, .slice none 0 0, .slice none 0 0]) ∧ Hid (Blk wx (g2 + 1) 31 #[.int .u8 9, .int .i64 0, .int .i64 0, .int .u8 0, .slice none 0 0, .slice none 0 0, .slice none 0 0, .slice (some ⟨g2, 0, none⟩) 3 3]) ∧ Hid (w.heap.size + 2 ≤ h1) ∧ Hid (h1 ≠ g2 ∧ h1 ≠ g2 + 1))
  case first =>
    have hlg := H12.out
    go_region_law (first
      | (go_simp; go_at_call 31; refine (HO.out _ (i64s rfl) _).mono ?_; rintro e w8 ⟨hb8, C7, he, hin8⟩
         simp [outP, KP.cells] at he
         subst he
         have b8 := BA.out.drew.call hb8
         have e8 := b8.cell 7
         simp at e8
         have ba := b8.alloc (.cells #[.int .u8 6, .int .i64 5, .int .i64 0, .int .u8 1, .slice none 0 0, .slice C7 1 1, .slice none 0 0, .slice none 0 0] 31)
         have ea := ba.cell 7
         simp at ea
         have OA9 := Lib.hid ((OZ.out.below hb8).alloc (.cells #[.int .u8 6, .int .i64 5, .int .i64 0, .int .u8 1, .slice none 0 0, .slice C7 1 1, .slice none 0 0, .slice none 0 0] 31))
         have hs9 : w.heap.size + 2 ≤ (w8.alloc (.cells #[.int .u8 6, .int .i64 5, .int .i64 0, .int .u8 1, .slice none 0 0, .slice C7 1 1, .slice none 0 0, .slice none 0 0] 31)).heap.size := by have := ba.lt; have := Hg1.out; omega)
      | (refine step_app_own Try.underlying29 hi0 hz0 hz1 hz2 rfl (by decide) OA9.out hs9 rfl (.tmp 21) (.tmp 23) rfl rfl w8.heap.size 1 1 #[.int .u8 6, .int .i64 5, .int .i64 0, .int .u8 1, .slice none 0 0, .slice C7 1 1, .slice none 0 0, .slice none 0 0] rfl (Blk.new w8 _ _) rfl (by simp [Value.oneCell']) (by omega) (by omega) ?_
         intro v' w9 hown hg hb9 hat
         simp only [Nat.reduceAdd] at hown
         obtain ⟨h1, d1, rfl, hlo1, hhi1⟩ := ownsRow_pos hown (by decide)
         have b9 := ba.grown hg (by simp [Value.ownBlock])
         have e9 := b9.cell 7
         have f9 := b9.frozen 7
         simp at e9))
    all_goals
      clear e7 d7 f7 k7 e8 ea e9 f9
      have hgg : (w8.alloc (.cells #[.int .u8 6, .int .i64 5, .int .i64 0, .int .u8 1, .slice none 0 0, .slice C7 1 1, .slice none 0 0, .slice none 0 0] 31)).grownBy w9 (some g1) := hg
      have hbx : Below W2.heap.size W2 w8 := ((Below.refl _ _).drew).trans hb8
      have hby : Below w8.heap.size w8 (w8.alloc (.cells #[.int .u8 6, .int .i64 5, .int .i64 0, .int .u8 1, .slice none 0 0, .slice C7 1 1, .slice none 0 0, .slice none 0 0] 31)) := (Below.refl _ _).alloc (Nat.le_refl _) _
      have K9 := (((K.out.push hbx hin8).call hby).grown (g := g1) hgg (by simp) Hg1.out).set (g := g1 + 1) (i := 7) (by simp) (by have := Hg1.out; omega) (.slice (some ⟨h1, 0, none⟩) 5 d1)
      have bx := b9.set_ 7 (.slice (some ⟨h1, 0, none⟩) 5 d1)
      simp only [List.setIfInBounds_toArray, List.set_cons_zero, List.set_cons_succ] at bx
      have hsz : W2.heap.size ≤ w8.heap.size := hbx.size
      have hlb := BB.out.lt
      have hh : h1 = g1 ∨ h1 = w8.heap.size + 1 := by
        simp [Value.ownBlock] at hat
        omega
      have rb := (((RB.out.call hbx).call hby).grown hgg (by simp; omega)).far (p := ⟨g1 + 1, 7, none⟩) (by simp; omega) (.slice (some ⟨h1, 0, none⟩) 5 d1)
      have bb := (((BB.out.call hbx).call hby).grown hgg (by simp; omega)).far (p := ⟨g1 + 1, 7, none⟩) (by simp; omega) (.slice (some ⟨h1, 0, none⟩) 5 d1)
      have ho := ownsRow_setCell_other hown (a := ⟨g1 + 1, 7, none⟩) (by simp [Value.ownBlock]; omega) (.slice (some ⟨h1, 0, none⟩) 5 d1)
      go_wp2
      go_meet
      exact ⟨rfl, h1, d1, C7, Lib.hid K9, Lib.hid ho, Lib.hid bx, Lib.hid rb, Lib.hid bb, Lib.hid hlo1, Lib.hid ⟨by omega, by omega⟩⟩
  case rest =>
  obtain ⟨rfl, h1, d1, C7, K3, OA, BA3, RB3, BB3, HH1, HN1⟩ := hcut
  clear K BA RA RB BB OZ e7 d7 f7 k7
  obtain ⟨W3, rfl⟩ : ∃ q, q = wc := ⟨_, rfl⟩
  have K := K3
  have BA := BA3
  have RB := RB3
  have BB := BB3
  clear K3 BA3 RB3 BB3
  go_upto_region 5 with fail
  have b1 := BB.out
  have b2 := BB.out.drew
  have e7 := b1.cell 7
  have d7 := b2.cell 7
  have f7 := b1.frozen 7
  have k7 := b2.frozen 7
  simp at e7 d7
  have OZ := Lib.hid (own_blk (base := w.heap.size + 2) (n := 3) (size := 8) RB.out Hg2.out rfl (by decide) (by decide)).drew'
  clear b1 b2
  go_cut [19] (fun s19 wx => s19 = .bool true ∧ ∃ (h2 d2 : Nat) (C8 : Option Addr), Hid (SmS w wx #[.slice none 0 0, .slice none 0 0, .int .u8 0, .int .i64 0, .int .i64 0, .int .u8 0, .slice none 0 0, .slice none 0 0, .slice none 0 0, .slice none 0 0, .slice none 0 0] #[.int .i64 0, .slice none 0 0, .int .i64 0, .int .i64 0] (fun x => (w.heap.size + 2 ≤ x ∧ x ≠ g1 ∧ x ≠ g1 + 1) ∧ x ≠ g2 ∧ x ≠ g2 + 1) ([] ++ [outP C0 2] ++ [outP C1 3] ++ [outP C2 1] ++ [inP C3 4] ++ [inP C4 2] ++ [inP C5 3] ++ [outP C6 4] ++ [outP C7 5] ++ [inP C8 5])) ∧ Hid (wx.ownsRow (w.heap.size + 2) 31 8 (.slice (some ⟨h1, 0, none⟩) 5 d1) 5 (#[.int .u8 6, .int .i64 2, .int .i64 0, .int .u8 1, .slice none 0 0, .slice C0 1 1, .slice none 0 0, .slice none 0 0, .int .u8 6, .int .i64 3, .int .i64 0, .int .u8 1, .slice none 0 0, .slice C1 1 1, .slice none 0 0, .slice none 0 0, .int .u8 6, .int .i64 1, .int .i64 0, .int .u8 1, .slice none 0 0, .slice C2 1 1, .slice none 0 0, .slice none 0 0, .int .u8 5, .int .i64 4, .int .i64 0, .int .u8 1, .slice C3 1 1, .slice none 0 0, .slice none 0 0, .slice none 0 0, .int .u8 6, .int .i64 5, .int .i64 0, .int .u8 1, .slice none 0 0, .slice C7 1 1, .slice none 0 0, .slice none 0 0] : Array Value).toList) ∧ Hid (Blk wx (g1 + 1) 31 #[.int .u8 9, .int .i64 0, .int .i64 0, .int .u8 0, .slice none 0 0, .slice none 0 0, .slice none 0 0, .slice (some ⟨h1, 0, none⟩) 5 d1]) ∧ Hid (wx.ownsRow (w.heap.size + 2) 31 8 (.slice (some ⟨h2, 0, none⟩) 4 d2) 4 (#[.int .u8 5, .int .i64 2, .int .i64 0, .int .u8 1, .slice C4 1 1, .slice none 0 0, .slice none 0 0, .slice none 0 0, .int .u8 5, .int .i64 3, .int .i64 0, .int .u8 1, .slice C5 1 1, .slice none 0 0, .slice none 0 0, .slice none 0 0, .int .u8 6, .int .i64 4, .int .i64 0, .int .u8 1, .slice none 0 0, .slice C6 1 1, .slice none 0 0, .slice none 0 0, .int .u8 5, .int .i64 5, .int .i64 0, .int .u8 1, .slice C8 1 1, .slice none 0 0, .slice none 0 0, .slice none 0 0] : Array Value).toList) ∧ Hid (Blk wx (g2 + 1) 31 #[.int .u8 9, .int .i64 0, .int .i64 0, .int .u8 0, .slice none 0 0, .slice none 0 0, .slice none 0 0, .slice (some ⟨h2, 0, none⟩) 4 d2]) ∧ Hid (w.heap.size + 2 ≤ h2))
  case first =>
    have hlg := H12.out
    go_region_law (first
      | (go_simp; go_at_call 32; refine (HI.out _ (i64s rfl) _).mono ?_; rintro e w8 ⟨hb8, C8, he, hin8⟩
         simp [inP, KP.cells] at he
         subst he
         have b8 := BB.out.drew.call hb8
         have e8 := b8.cell 7
         simp at e8
         have ba := b8.alloc (.cells #[.int .u8 5, .int .i64 5, .int .i64 0, .int .u8 1, .slice C8 1 1, .slice none 0 0, .slice none 0 0, .slice none 0 0] 31)
         have ea := ba.cell 7
         simp at ea
         have OA9 := Lib.hid ((OZ.out.below hb8).alloc (.cells #[.int .u8 5, .int .i64 5, .int .i64 0, .int .u8 1, .slice C8 1 1, .slice none 0 0, .slice none 0 0, .slice none 0 0] 31))
         have hs9 : w.heap.size + 2 ≤ (w8.alloc (.cells #[.int .u8 5, .int .i64 5, .int .i64 0, .int .u8 1, .slice C8 1 1, .slice none 0 0, .slice none 0 0, .slice none 0 0] 31)).heap.size := by have := ba.lt; have := Hg2.out; omega)
      | (refine step_app_own Try.underlying29 hi0 hz0 hz1 hz2 rfl (by decide) OA9.out hs9 rfl (.tmp 27) (.tmp 29) rfl rfl w8.heap.size 1 1 #[.int .u8 5, .int .i64 5, .int .i64 0, .int .u8 1, .slice C8 1 1, .slice none 0 0, .slice none 0 0, .slice none 0 0] rfl (Blk.new w8 _ _) rfl (by simp [Value.oneCell']) (by omega) (by omega) ?_
         intro v' w9 hown hg hb9 hat
         simp only [Nat.reduceAdd] at hown
         obtain ⟨h2, d2, rfl, hlo1, hhi1⟩ := ownsRow_pos hown (by decide)
         have b9 := ba.grown hg (by simp [Value.ownBlock])
         have e9 := b9.cell 7
         have f9 := b9.frozen 7
         simp at e9))
    all_goals
      clear e7 d7 f7 k7 e8 ea e9 f9
      have hgg : (w8.alloc (.cells #[.int .u8 5, .int .i64 5, .int .i64 0, .int .u8 1, .slice C8 1 1, .slice none 0 0, .slice none 0 0, .slice none 0 0] 31)).grownBy w9 (some g2) := hg
      have hbx : Below W3.heap.size W3 w8 := ((Below.refl _ _).drew).trans hb8
      have hby : Below w8.heap.size w8 (w8.alloc (.cells #[.int .u8 5, .int .i64 5, .int .i64 0, .int .u8 1, .slice C8 1 1, .slice none 0 0, .slice none 0 0, .slice none 0 0] 31)) := (Below.refl _ _).alloc (Nat.le_refl _) _
      have K9 := (((K.out.push hbx hin8).call hby).grown (g := g2) hgg (by simp) Hg2.out).set (g := g2 + 1) (i := 7) (by simp) (by have := Hg2.out; omega) (.slice (some ⟨h2, 0, none⟩) 4 d2)
      have bx := b9.set_ 7 (.slice (some ⟨h2, 0, none⟩) 4 d2)
      simp only [List.setIfInBounds_toArray, List.set_cons_zero, List.set_cons_succ] at bx
      have hsz : W3.heap.size ≤ w8.heap.size := hbx.size
      have hlb := BB.out.lt
      have hh : h2 = g2 ∨ h2 = w8.heap.size + 1 := by
        simp [Value.ownBlock] at hat
        omega
      have hn := HN1.out
      have oa := ownsRow_setCell_other ((((OA.out.below hbx).below hby)).kept hgg (by right; simp [Value.ownBlock]; omega)) (a := ⟨g2 + 1, 7, none⟩) (by simp [Value.ownBlock]; omega) (.slice (some ⟨h2, 0, none⟩) 4 d2)
      have ab := (((BA.out.call hbx).call hby).grown hgg (by simp; omega)).far (p := ⟨g2 + 1, 7, none⟩) (by simp; omega) (.slice (some ⟨h2, 0, none⟩) 4 d2)
      have ho := ownsRow_setCell_other hown (a := ⟨g2 + 1, 7, none⟩) (by simp [Value.ownBlock]; omega) (.slice (some ⟨h2, 0, none⟩) 4 d2)
      go_wp2
      go_meet
      exact ⟨rfl, h2, d2, C8, Lib.hid K9, Lib.hid oa, Lib.hid ab, Lib.hid ho, Lib.hid bx, Lib.hid hlo1⟩
  case rest =>
  obtain ⟨rfl, h2, d2, C8, K4, OA4, BA4, OB, BB4, HH2⟩ := hcut
  clear K BA OA RB BB OZ e7 d7 f7 k7
  obtain ⟨W4, rfl⟩ : ∃ q, q = wc := ⟨_, rfl⟩
  have K := K4
  have BA := BA4
  have OA := OA4
  have BB := BB4
  clear K4 BA4 OA4 BB4
  have x8 := (BA.out.alloc (.cells #[.int .u8 1, .int .i64 0] 82)).alloc (.cells #[.int .u8 1, .int .u8 2, .int .u8 0, .int .u8 0, .int .u8 0, .int .u8 0] 83)
  have x9 := (BB.out.alloc (.cells #[.int .u8 1, .int .i64 0] 82)).alloc (.cells #[.int .u8 1, .int .u8 2, .int .u8 0, .int .u8 0, .int .u8 0, .int .u8 0] 83)
  have e0 := x8.cell 0
  have e1 := x8.cell 1
  have e2 := x8.cell 2
  have e3 := x8.cell 3
  have e4 := x8.cell 4
  have e5 := x8.cell 5
  have e6 := x8.cell 6
  have e7 := x8.cell 7
  simp at e0 e1 e2 e3 e4 e5 e6 e7
  have q0 := x9.cell 0
  have q1 := x9.cell 1
  have q2 := x9.cell 2
  have q3 := x9.cell 3
  have q4 := x9.cell 4
  have q5 := x9.cell 5
  have q6 := x9.cell 6
  have q7 := x9.cell 7
  simp at q0 q1 q2 q3 q4 q5 q6 q7
  go_upto_region 8 with fail
  clear x8 x9 e0 e1 e2 e3 e4 e5 e6 e7 q0 q1 q2 q3 q4 q5 q6 q7
  obtain ⟨W7, hW7⟩ : ∃ W, (((((((W4.alloc (.cells #[.int .u8 1, .int .i64 0] 82)).alloc (.cells #[.int .u8 1, .int .u8 2, .int .u8 0, .int .u8 0, .int .u8 0, .int .u8 0] 83)).alloc (.cells #[.int .u8 9, .int .i64 0, .int .i64 0, .int .u8 0, .slice none 0 0, .slice none 0 0, .slice none 0 0, .slice (some ⟨h1, 0, none⟩) 5 d1, .int .u8 9, .int .i64 0, .int .i64 0, .int .u8 0, .slice none 0 0, .slice none 0 0, .slice none 0 0, .slice (some ⟨h2, 0, none⟩) 4 d2] 31)).alloc (.cells #[.int .i64 0, .int .i64 1] 3)).alloc (.cells #[.slice (some ⟨W4.heap.size, 0, none⟩) 1 1, .slice (some ⟨W4.heap.size + 1, 0, none⟩) 6 6, .int .u8 10, .int .i64 0, .int .i64 0, .int .u8 0, .slice none 0 0, .slice none 0 0, .slice none 0 0, .slice (some ⟨W4.heap.size + 1 + 1, 0, none⟩) 2 2, .slice (some ⟨W4.heap.size + 1 + 1 + 1, 0, none⟩) 2 2] 34)).alloc (.cells #[.int .i64 0, .int .i64 2, .int .i64 1, .int .i64 0, .int .i64 0, .int .i64 1, .int .i64 1, .int .i64 3] 94)).alloc (.cells #[.int .i64 2, .slice (some ⟨W4.heap.size + 1 + 1 + 1 + 1 + 1, 0, none⟩) 2 2, .int .i64 0, .int .i64 0] 40)) = W := ⟨_, rfl⟩
  obtain ⟨s0, s1, s2, s3, s4, s5, s6, s7⟩ := seven _ _ _ _ _ _ _ _ _ _ _ _ _ _ hW7
  rw [hW7]
  have K7 := Lib.hid (K.out.call s0)
  have RA7 := Lib.hid (Reads.of_own (OA.out.below s0))
  have RB7 := Lib.hid (Reads.of_own (OB.out.below s0))
  have HM : Hid (w.heap.size + 2 ≤ W4.heap.size) := Lib.hid (by have := K.out.tb.lt; omega)
  clear K OA OB BA BB s0 hW7
  generalize W4.heap.size = m at *
  have S1 := Lib.hid s1
  have S2 := Lib.hid s2
  have S3 := Lib.hid s3
  have S4 := Lib.hid s4
  have S6 := Lib.hid s6
  have b5 := s5
  have b7 := s7
  have e0 := b5.cell 0
  have e1 := b5.cell 1
  have e2 := b5.cell 2
  have e3 := b5.cell 3
  have e4 := b5.cell 4
  have e5 := b5.cell 5
  have e6 := b5.cell 6
  have e7 := b5.cell 7
  have e8 := b5.cell 8
  have e9 := b5.cell 9
  have e10 := b5.cell 10
  simp at e0 e1 e2 e3 e4 e5 e6 e7 e8 e9 e10
  have q0 := b7.cell 0
  have q1 := b7.cell 1
  have q2 := b7.cell 2
  have q3 := b7.cell 3
  simp at q0 q1 q2 q3
  clear s1 s2 s3 s4 s5 s6 s7 b5 b7
  have kb := K7.out.kb
  have tb := K7.out.tb
  have y0 := kb.frozen 0
  have y1 := kb.frozen 1
  have y2 := kb.frozen 2
  have y3 := kb.frozen 3
  have y4 := kb.frozen 4
  have y5 := kb.frozen 5
  have y6 := kb.frozen 6
  have y7 := kb.frozen 7
  have y8 := kb.frozen 8
  have y9 := kb.frozen 9
  have y10 := kb.frozen 10
  have z0 := tb.frozen 0
  have z1 := tb.frozen 1
  have z2 := tb.frozen 2
  have z3 := tb.frozen 3
  have kbd := K7.out.kb.drew
  have tbd := K7.out.tb.drew
  have yd0 := kbd.frozen 0
  have yd1 := kbd.frozen 1
  have yd2 := kbd.frozen 2
  have yd3 := kbd.frozen 3
  have yd4 := kbd.frozen 4
  have yd5 := kbd.frozen 5
  have yd6 := kbd.frozen 6
  have yd7 := kbd.frozen 7
  have yd8 := kbd.frozen 8
  have yd9 := kbd.frozen 9
  have yd10 := kbd.frozen 10
  have zd0 := tbd.frozen 0
  have zd1 := tbd.frozen 1
  have zd2 := tbd.frozen 2
  have zd3 := tbd.frozen 3
  have u0 := kb.cell 0
  have u1 := kb.cell 1
  have u2 := kb.cell 2
  have u3 := kb.cell 3
  have u4 := kb.cell 4
  have u5 := kb.cell 5
  have u6 := kb.cell 6
  have u7 := kb.cell 7
  have u8 := kb.cell 8
  have u9 := kb.cell 9
  have u10 := kb.cell 10
  simp at u0 u1 u2 u3 u4 u5 u6 u7 u8 u9 u10
  have v0 := tb.cell 0
  have v1 := tb.cell 1
  have v2 := tb.cell 2
  have v3 := tb.cell 3
  simp at v0 v1 v2 v3
  clear kb tb kbd tbd
  have hm := HM.out
  have WK : Hid (Wrote W7 (((((((((((W7.setCell ⟨w.heap.size, 0, none⟩ (.slice (some ⟨m, 0, none⟩) 1 1)).setCell ⟨w.heap.size, 1, none⟩ (.slice (some ⟨m + 1, 0, none⟩) 6 6)).setCell ⟨w.heap.size, 2, none⟩ (.int .u8 10)).setCell ⟨w.heap.size, 3, none⟩ (.int .i64 0)).setCell ⟨w.heap.size, 4, none⟩ (.int .i64 0)).setCell ⟨w.heap.size, 5, none⟩ (.int .u8 0)).setCell ⟨w.heap.size, 6, none⟩ (.slice none 0 0)).setCell ⟨w.heap.size, 7, none⟩ (.slice none 0 0)).setCell ⟨w.heap.size, 8, none⟩ (.slice none 0 0)).setCell ⟨w.heap.size, 9, none⟩ (.slice (some ⟨m + 1 + 1, 0, none⟩) 2 2)).setCell ⟨w.heap.size, 10, none⟩ (.slice (some ⟨m + 1 + 1 + 1, 0, none⟩) 2 2)) w.heap.size 34 _) := Lib.hid ((((((((((((Wrote.nil K7.out.kb).set_ 0 (.slice (some ⟨m, 0, none⟩) 1 1)).set_ 1 (.slice (some ⟨m + 1, 0, none⟩) 6 6)).set_ 2 (.int .u8 10)).set_ 3 (.int .i64 0)).set_ 4 (.int .i64 0)).set_ 5 (.int .u8 0)).set_ 6 (.slice none 0 0)).set_ 7 (.slice none 0 0)).set_ 8 (.slice none 0 0)).set_ 9 (.slice (some ⟨m + 1 + 1, 0, none⟩) 2 2)).set_ 10 (.slice (some ⟨m + 1 + 1 + 1, 0, none⟩) 2 2))
  have WKd : Hid (Wrote W7 (((((((((((W7.setCell ⟨w.heap.size, 0, none⟩ (.slice (some ⟨m, 0, none⟩) 1 1)).setCell ⟨w.heap.size, 1, none⟩ (.slice (some ⟨m + 1, 0, none⟩) 6 6)).setCell ⟨w.heap.size, 2, none⟩ (.int .u8 10)).setCell ⟨w.heap.size, 3, none⟩ (.int .i64 0)).setCell ⟨w.heap.size, 4, none⟩ (.int .i64 0)).setCell ⟨w.heap.size, 5, none⟩ (.int .u8 0)).setCell ⟨w.heap.size, 6, none⟩ (.slice none 0 0)).setCell ⟨w.heap.size, 7, none⟩ (.slice none 0 0)).setCell ⟨w.heap.size, 8, none⟩ (.slice none 0 0)).setCell ⟨w.heap.size, 9, none⟩ (.slice (some ⟨m + 1 + 1, 0, none⟩) 2 2)).setCell ⟨w.heap.size, 10, none⟩ (.slice (some ⟨m + 1 + 1 + 1, 0, none⟩) 2 2)).drew w.heap.size 34 _) := Lib.hid WK.out.drew
  have WE : Hid (Wrote (((((((((((W7.setCell ⟨w.heap.size, 0, none⟩ (.slice (some ⟨m, 0, none⟩) 1 1)).setCell ⟨w.heap.size, 1, none⟩ (.slice (some ⟨m + 1, 0, none⟩) 6 6)).setCell ⟨w.heap.size, 2, none⟩ (.int .u8 10)).setCell ⟨w.heap.size, 3, none⟩ (.int .i64 0)).setCell ⟨w.heap.size, 4, none⟩ (.int .i64 0)).setCell ⟨w.heap.size, 5, none⟩ (.int .u8 0)).setCell ⟨w.heap.size, 6, none⟩ (.slice none 0 0)).setCell ⟨w.heap.size, 7, none⟩ (.slice none 0 0)).setCell ⟨w.heap.size, 8, none⟩ (.slice none 0 0)).setCell ⟨w.heap.size, 9, none⟩ (.slice (some ⟨m + 1 + 1, 0, none⟩) 2 2)).setCell ⟨w.heap.size, 10, none⟩ (.slice (some ⟨m + 1 + 1 + 1, 0, none⟩) 2 2)) (((((((((((((((W7.setCell ⟨w.heap.size, 0, none⟩ (.slice (some ⟨m, 0, none⟩) 1 1)).setCell ⟨w.heap.size, 1, none⟩ (.slice (some ⟨m + 1, 0, none⟩) 6 6)).setCell ⟨w.heap.size, 2, none⟩ (.int .u8 10)).setCell ⟨w.heap.size, 3, none⟩ (.int .i64 0)).setCell ⟨w.heap.size, 4, none⟩ (.int .i64 0)).setCell ⟨w.heap.size, 5, none⟩ (.int .u8 0)).setCell ⟨w.heap.size, 6, none⟩ (.slice none 0 0)).setCell ⟨w.heap.size, 7, none⟩ (.slice none 0 0)).setCell ⟨w.heap.size, 8, none⟩ (.slice none 0 0)).setCell ⟨w.heap.size, 9, none⟩ (.slice (some ⟨m + 1 + 1, 0, none⟩) 2 2)).setCell ⟨w.heap.size, 10, none⟩ (.slice (some ⟨m + 1 + 1 + 1, 0, none⟩) 2 2)).setCell ⟨w.heap.size + 1, 0, none⟩ (.int .i64 2)).setCell ⟨w.heap.size + 1, 1, none⟩ (.slice (some ⟨m + 1 + 1 + 1 + 1 + 1, 0, none⟩) 2 2)).setCell ⟨w.heap.size + 1, 2, none⟩ (.int .i64 0)).setCell ⟨w.heap.size + 1, 3, none⟩ (.int .i64 0)).drew (w.heap.size + 1) 40 _) := Lib.hid (((((Wrote.nil (WK.out.other _ _ _ (by omega) K7.out.tb)).set_ 0 (.int .i64 2)).set_ 1 (.slice (some ⟨m + 1 + 1 + 1 + 1 + 1, 0, none⟩) 2 2)).set_ 2 (.int .i64 0)).set_ 3 (.int .i64 0)).drew
  have S0 : (∀ o, W7.drew.cell? ⟨m + 1 + 1 + 1 + 1, o, none⟩ = W7.cell? ⟨m + 1 + 1 + 1 + 1, o, none⟩) ∧ (∀ o, W7.drew.cell? ⟨m + 1 + 1 + 1 + 1 + 1 + 1, o, none⟩ = W7.cell? ⟨m + 1 + 1 + 1 + 1 + 1 + 1, o, none⟩) := ⟨fun _ => rfl, fun _ => rfl⟩
  have SK : (∀ o, (((((((((((W7.setCell ⟨w.heap.size, 0, none⟩ (.slice (some ⟨m, 0, none⟩) 1 1)).setCell ⟨w.heap.size, 1, none⟩ (.slice (some ⟨m + 1, 0, none⟩) 6 6)).setCell ⟨w.heap.size, 2, none⟩ (.int .u8 10)).setCell ⟨w.heap.size, 3, none⟩ (.int .i64 0)).setCell ⟨w.heap.size, 4, none⟩ (.int .i64 0)).setCell ⟨w.heap.size, 5, none⟩ (.int .u8 0)).setCell ⟨w.heap.size, 6, none⟩ (.slice none 0 0)).setCell ⟨w.heap.size, 7, none⟩ (.slice none 0 0)).setCell ⟨w.heap.size, 8, none⟩ (.slice none 0 0)).setCell ⟨w.heap.size, 9, none⟩ (.slice (some ⟨m + 1 + 1, 0, none⟩) 2 2)).setCell ⟨w.heap.size, 10, none⟩ (.slice (some ⟨m + 1 + 1 + 1, 0, none⟩) 2 2)).drew.cell? ⟨m + 1 + 1 + 1 + 1, o, none⟩ = W7.cell? ⟨m + 1 + 1 + 1 + 1, o, none⟩) ∧ (∀ o, (((((((((((W7.setCell ⟨w.heap.size, 0, none⟩ (.slice (some ⟨m, 0, none⟩) 1 1)).setCell ⟨w.heap.size, 1, none⟩ (.slice (some ⟨m + 1, 0, none⟩) 6 6)).setCell ⟨w.heap.size, 2, none⟩ (.int .u8 10)).setCell ⟨w.heap.size, 3, none⟩ (.int .i64 0)).setCell ⟨w.heap.size, 4, none⟩ (.int .i64 0)).setCell ⟨w.heap.size, 5, none⟩ (.int .u8 0)).setCell ⟨w.heap.size, 6, none⟩ (.slice none 0 0)).setCell ⟨w.heap.size, 7, none⟩ (.slice none 0 0)).setCell ⟨w.heap.size, 8, none⟩ (.slice none 0 0)).setCell ⟨w.heap.size, 9, none⟩ (.slice (some ⟨m + 1 + 1, 0, none⟩) 2 2)).setCell ⟨w.heap.size, 10, none⟩ (.slice (some ⟨m + 1 + 1 + 1, 0, none⟩) 2 2)).drew.cell? ⟨m + 1 + 1 + 1 + 1 + 1 + 1, o, none⟩ = W7.cell? ⟨m + 1 + 1 + 1 + 1 + 1 + 1, o, none⟩) := ⟨fun o => WKd.out.far ⟨m + 1 + 1 + 1 + 1, o, none⟩ (by show m + 1 + 1 + 1 + 1 ≠ w.heap.size; omega), fun o => WKd.out.far ⟨m + 1 + 1 + 1 + 1 + 1 + 1, o, none⟩ (by show m + 1 + 1 + 1 + 1 + 1 + 1 ≠ w.heap.size; omega)⟩
  have ST : (∀ o, (((((((((((((((W7.setCell ⟨w.heap.size, 0, none⟩ (.slice (some ⟨m, 0, none⟩) 1 1)).setCell ⟨w.heap.size, 1, none⟩ (.slice (some ⟨m + 1, 0, none⟩) 6 6)).setCell ⟨w.heap.size, 2, none⟩ (.int .u8 10)).setCell ⟨w.heap.size, 3, none⟩ (.int .i64 0)).setCell ⟨w.heap.size, 4, none⟩ (.int .i64 0)).setCell ⟨w.heap.size, 5, none⟩ (.int .u8 0)).setCell ⟨w.heap.size, 6, none⟩ (.slice none 0 0)).setCell ⟨w.heap.size, 7, none⟩ (.slice none 0 0)).setCell ⟨w.heap.size, 8, none⟩ (.slice none 0 0)).setCell ⟨w.heap.size, 9, none⟩ (.slice (some ⟨m + 1 + 1, 0, none⟩) 2 2)).setCell ⟨w.heap.size, 10, none⟩ (.slice (some ⟨m + 1 + 1 + 1, 0, none⟩) 2 2)).setCell ⟨w.heap.size + 1, 0, none⟩ (.int .i64 2)).setCell ⟨w.heap.size + 1, 1, none⟩ (.slice (some ⟨m + 1 + 1 + 1 + 1 + 1, 0, none⟩) 2 2)).setCell ⟨w.heap.size + 1, 2, none⟩ (.int .i64 0)).setCell ⟨w.heap.size + 1, 3, none⟩ (.int .i64 0)).drew.cell? ⟨m + 1 + 1 + 1 + 1, o, none⟩ = W7.cell? ⟨m + 1 + 1 + 1 + 1, o, none⟩) ∧ (∀ o, (((((((((((((((W7.setCell ⟨w.heap.size, 0, none⟩ (.slice (some ⟨m, 0, none⟩) 1 1)).setCell ⟨w.heap.size, 1, none⟩ (.slice (some ⟨m + 1, 0, none⟩) 6 6)).setCell ⟨w.heap.size, 2, none⟩ (.int .u8 10)).setCell ⟨w.heap.size, 3, none⟩ (.int .i64 0)).setCell ⟨w.heap.size, 4, none⟩ (.int .i64 0)).setCell ⟨w.heap.size, 5, none⟩ (.int .u8 0)).setCell ⟨w.heap.size, 6, none⟩ (.slice none 0 0)).setCell ⟨w.heap.size, 7, none⟩ (.slice none 0 0)).setCell ⟨w.heap.size, 8, none⟩ (.slice none 0 0)).setCell ⟨w.heap.size, 9, none⟩ (.slice (some ⟨m + 1 + 1, 0, none⟩) 2 2)).setCell ⟨w.heap.size, 10, none⟩ (.slice (some ⟨m + 1 + 1 + 1, 0, none⟩) 2 2)).setCell ⟨w.heap.size + 1, 0, none⟩ (.int .i64 2)).setCell ⟨w.heap.size + 1, 1, none⟩ (.slice (some ⟨m + 1 + 1 + 1 + 1 + 1, 0, none⟩) 2 2)).setCell ⟨w.heap.size + 1, 2, none⟩ (.int .i64 0)).setCell ⟨w.heap.size + 1, 3, none⟩ (.int .i64 0)).drew.cell? ⟨m + 1 + 1 + 1 + 1 + 1 + 1, o, none⟩ = W7.cell? ⟨m + 1 + 1 + 1 + 1 + 1 + 1, o, none⟩) := ⟨fun o => (WE.out.far ⟨m + 1 + 1 + 1 + 1, o, none⟩ (by show m + 1 + 1 + 1 + 1 ≠ w.heap.size + 1; omega)).trans (WK.out.far ⟨m + 1 + 1 + 1 + 1, o, none⟩ (by show m + 1 + 1 + 1 + 1 ≠ w.heap.size; omega)), fun o => (WE.out.far ⟨m + 1 + 1 + 1 + 1 + 1 + 1, o, none⟩ (by show m + 1 + 1 + 1 + 1 + 1 + 1 ≠ w.heap.size + 1; omega)).trans (WK.out.far ⟨m + 1 + 1 + 1 + 1 + 1 + 1, o, none⟩ (by show m + 1 + 1 + 1 + 1 + 1 + 1 ≠ w.heap.size; omega))⟩
  go_region_held3 (fun w' => (∀ o, w'.cell? ⟨m + 1 + 1 + 1 + 1, o, none⟩ = W7.cell? ⟨m + 1 + 1 + 1 + 1, o, none⟩) ∧ (∀ o, w'.cell? ⟨m + 1 + 1 + 1 + 1 + 1 + 1, o, none⟩ = W7.cell? ⟨m + 1 + 1 + 1 + 1 + 1 + 1, o, none⟩)) (first | with_reducible exact S0 | with_reducible exact SK | with_reducible exact ST) (fail)
  have HZ : Hid ((((((((((((((((W7.setCell ⟨w.heap.size, 0, none⟩ (.slice (some ⟨m, 0, none⟩) 1 1)).setCell ⟨w.heap.size, 1, none⟩ (.slice (some ⟨m + 1, 0, none⟩) 6 6)).setCell ⟨w.heap.size, 2, none⟩ (.int .u8 10)).setCell ⟨w.heap.size, 3, none⟩ (.int .i64 0)).setCell ⟨w.heap.size, 4, none⟩ (.int .i64 0)).setCell ⟨w.heap.size, 5, none⟩ (.int .u8 0)).setCell ⟨w.heap.size, 6, none⟩ (.slice none 0 0)).setCell ⟨w.heap.size, 7, none⟩ (.slice none 0 0)).setCell ⟨w.heap.size, 8, none⟩ (.slice none 0 0)).setCell ⟨w.heap.size, 9, none⟩ (.slice (some ⟨m + 1 + 1, 0, none⟩) 2 2)).setCell ⟨w.heap.size, 10, none⟩ (.slice (some ⟨m + 1 + 1 + 1, 0, none⟩) 2 2)).setCell ⟨w.heap.size + 1, 0, none⟩ (.int .i64 2)).setCell ⟨w.heap.size + 1, 1, none⟩ (.slice (some ⟨m + 1 + 1 + 1 + 1 + 1, 0, none⟩) 2 2)).setCell ⟨w.heap.size + 1, 2, none⟩ (.int .i64 0)).setCell ⟨w.heap.size + 1, 3, none⟩ (.int .i64 0)).drew.heap.size = W7.heap.size) := Lib.hid (WE.out.size.trans WK.out.size)
  have HF : Hid (∀ a : Addr, w.heap.size + 2 ≤ a.block → (((((((((((((((W7.setCell ⟨w.heap.size, 0, none⟩ (.slice (some ⟨m, 0, none⟩) 1 1)).setCell ⟨w.heap.size, 1, none⟩ (.slice (some ⟨m + 1, 0, none⟩) 6 6)).setCell ⟨w.heap.size, 2, none⟩ (.int .u8 10)).setCell ⟨w.heap.size, 3, none⟩ (.int .i64 0)).setCell ⟨w.heap.size, 4, none⟩ (.int .i64 0)).setCell ⟨w.heap.size, 5, none⟩ (.int .u8 0)).setCell ⟨w.heap.size, 6, none⟩ (.slice none 0 0)).setCell ⟨w.heap.size, 7, none⟩ (.slice none 0 0)).setCell ⟨w.heap.size, 8, none⟩ (.slice none 0 0)).setCell ⟨w.heap.size, 9, none⟩ (.slice (some ⟨m + 1 + 1, 0, none⟩) 2 2)).setCell ⟨w.heap.size, 10, none⟩ (.slice (some ⟨m + 1 + 1 + 1, 0, none⟩) 2 2)).setCell ⟨w.heap.size + 1, 0, none⟩ (.int .i64 2)).setCell ⟨w.heap.size + 1, 1, none⟩ (.slice (some ⟨m + 1 + 1 + 1 + 1 + 1, 0, none⟩) 2 2)).setCell ⟨w.heap.size + 1, 2, none⟩ (.int .i64 0)).setCell ⟨w.heap.size + 1, 3, none⟩ (.int .i64 0)).drew.cell? a = W7.cell? a) := Lib.hid (fun a ha => (WE.out.far a (by omega)).trans (WK.out.far a (by omega)))
  have HB : Hid (Below w.heap.size w (((((((((((((((W7.setCell ⟨w.heap.size, 0, none⟩ (.slice (some ⟨m, 0, none⟩) 1 1)).setCell ⟨w.heap.size, 1, none⟩ (.slice (some ⟨m + 1, 0, none⟩) 6 6)).setCell ⟨w.heap.size, 2, none⟩ (.int .u8 10)).setCell ⟨w.heap.size, 3, none⟩ (.int .i64 0)).setCell ⟨w.heap.size, 4, none⟩ (.int .i64 0)).setCell ⟨w.heap.size, 5, none⟩ (.int .u8 0)).setCell ⟨w.heap.size, 6, none⟩ (.slice none 0 0)).setCell ⟨w.heap.size, 7, none⟩ (.slice none 0 0)).setCell ⟨w.heap.size, 8, none⟩ (.slice none 0 0)).setCell ⟨w.heap.size, 9, none⟩ (.slice (some ⟨m + 1 + 1, 0, none⟩) 2 2)).setCell ⟨w.heap.size, 10, none⟩ (.slice (some ⟨m + 1 + 1 + 1, 0, none⟩) 2 2)).setCell ⟨w.heap.size + 1, 0, none⟩ (.int .i64 2)).setCell ⟨w.heap.size + 1, 1, none⟩ (.slice (some ⟨m + 1 + 1 + 1 + 1 + 1, 0, none⟩) 2 2)).setCell ⟨w.heap.size + 1, 2, none⟩ (.int .i64 0)).setCell ⟨w.heap.size + 1, 3, none⟩ (.int .i64 0)).drew) := Lib.hid (WE.out.below _ _ (by omega) (WK.out.below _ _ (Nat.le_refl _) K7.out.bel))
  have HKB := (WE.out.other _ _ _ (by omega) WK.out.blk)
  have HTB := WE.out.blk
  simp only [List.setIfInBounds_toArray, List.set_cons_zero, List.set_cons_succ] at HKB HTB
  replace HKB := Lib.hid HKB
  replace HTB := Lib.hid HTB
  clear S0 SK ST WK WE WKd y0 y1 y2 y3 y4 y5 y6 y7 y8 y9 y10 yd0 yd1 yd2 yd3 yd4 yd5 yd6 yd7 yd8 yd9 yd10 z0 z1 z2 z3 zd0 zd1 zd2 zd3 u0 u1 u2 u3 u4 u5 u6 u7 u8 u9 u10 v0 v1 v2 v3 e0 e1 e2 e3 e4 e5 e6 e7 e8 e9 e10 q0 q1 q2 q3
  generalize (((((((((((((((W7.setCell ⟨w.heap.size, 0, none⟩ (.slice (some ⟨m, 0, none⟩) 1 1)).setCell ⟨w.heap.size, 1, none⟩ (.slice (some ⟨m + 1, 0, none⟩) 6 6)).setCell ⟨w.heap.size, 2, none⟩ (.int .u8 10)).setCell ⟨w.heap.size, 3, none⟩ (.int .i64 0)).setCell ⟨w.heap.size, 4, none⟩ (.int .i64 0)).setCell ⟨w.heap.size, 5, none⟩ (.int .u8 0)).setCell ⟨w.heap.size, 6, none⟩ (.slice none 0 0)).setCell ⟨w.heap.size, 7, none⟩ (.slice none 0 0)).setCell ⟨w.heap.size, 8, none⟩ (.slice none 0 0)).setCell ⟨w.heap.size, 9, none⟩ (.slice (some ⟨m + 1 + 1, 0, none⟩) 2 2)).setCell ⟨w.heap.size, 10, none⟩ (.slice (some ⟨m + 1 + 1 + 1, 0, none⟩) 2 2)).setCell ⟨w.heap.size + 1, 0, none⟩ (.int .i64 2)).setCell ⟨w.heap.size + 1, 1, none⟩ (.slice (some ⟨m + 1 + 1 + 1 + 1 + 1, 0, none⟩) 2 2)).setCell ⟨w.heap.size + 1, 2, none⟩ (.int .i64 0)).setCell ⟨w.heap.size + 1, 3, none⟩ (.int .i64 0)).drew = wx at *
  go_wp2
  refine bodyPost_ret (v := .tuple #[.agg #[.slice (some ⟨m, 0, none⟩) 1 1, .slice (some ⟨m + 1, 0, none⟩) 6 6, .int .u8 10, .int .i64 0, .int .i64 0, .int .u8 0, .slice none 0 0, .slice none 0 0, .slice none 0 0, .slice (some ⟨m + 1 + 1, 0, none⟩) 2 2, .slice (some ⟨m + 1 + 1 + 1, 0, none⟩) 2 2], .agg #[.int .i64 2, .slice (some ⟨m + 1 + 1 + 1 + 1 + 1, 0, none⟩) 2 2, .int .i64 0, .int .i64 0]]) (results_cell_cell rfl _ _ _ rfl rfl (run_loadVar_row _ _ _ _ _ _ _ HKB.out Try.underlying34 rfl kernel_size) (run_loadVar_row _ _ _ _ _ _ _ HTB.out Try.underlying40 rfl topo_size)) rfl ?_
  have h3 := S3.out
  have h12 := RA7.out
  have h13 := RB7.out
  have hz := HZ.out
  refine sm_fin true (a := d1) (b := d2) (C0 := C0) (C1 := C1) (C2 := C2) (C3 := C3) (C4 := C4) (C5 := C5) (C6 := C6) (C7 := C7) (C8 := C8) (A12 := some ⟨h1, 0, none⟩) (A13 := some ⟨h2, 0, none⟩) HB.out (fun p hp => ?_) (reads_kept hz HF.out S1.out hm rfl) (reads_kept hz HF.out S2.out (by omega) rfl) (reads_kept (n := 2) (size := 8) hz HF.out h3 (by omega) rfl) (reads_far hz HF.out h12 HH1.out) (reads_far hz HF.out h13 HH2.out) (reads_kept hz HF.out S4.out (by omega) rfl) (reads_kept (n := 2) (size := 4) hz HF.out S6.out (by omega) rfl)
  simp [smA, smB, smF] at hp
  have hq := K7.out.ps p (by rcases hp with h | h | h | h | h | h | h | h | h <;> simp [h]) wx (by omega) (fun a ha _ => HF.out a (K7.out.lo _ ha))
  rw [hz]
  exact hq
theorem lSample (more : Bool) (w : World) : Calls Try.prog 19 #[.bool more] w (RetSm more w) := by
  cases more
  · exact lSample_no w
  · exact lSample_yes w
end Go.Proofs.Ytekamebpjjkifaa
