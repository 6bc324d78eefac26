/- Texts that belong together, joined: what each one holds is told ahead of it. -/
import Derived.Test.YtljeecocbcffcaaDoorHK6
import Derived.Test.YtljeecocbcffcaaDoorHK2
import Derived.Maps.OwnIn
import Derived.Test.YtljeecocbcffcaaDoorHK3
import Derived.Test.YtljeecocbcffcaaDoorHK5
import Derived.Lib.LaidTab
import Derived.Stop.LaidErr
import Derived.LaidMore
import Derived.Lay
import Derived.ProofKit
import Derived.OpenShut
import Derived.DataShut
/- The parts of a text, handed over by the program's iterator. -/
namespace Go.Proofs.YtljeecocbcffcaaDoor
open Go.RowKit Go.Maps Go.WideMaps Go.Shelf
attribute [local go_sem] Oper.semAt_some

def partsF : Nat → List UInt8 → List (List UInt8 × Bool)
  | 0, _ => []
  | k + 1, l => if l.isEmpty then [] else (l.takeWhile (· != 10), !(l.dropWhile (· != 10)).isEmpty) :: partsF k (l.dropWhile (· != 10)).tail
def partsL (l : List UInt8) : List (List UInt8 × Bool) := partsF l.length l
theorem tail_lt {l : List UInt8} (h : l.isEmpty = false) : (l.dropWhile (· != 10)).tail.length < l.length := by
  cases l with
  | nil => cases h
  | cons b r =>
    have := (List.dropWhile_sublist (p := (· != 10)) (l := b :: r)).length_le
    rw [List.length_tail]
    simp only [List.length_cons] at this ⊢
    omega
theorem partsF_more : ∀ (j k : Nat) (l : List UInt8), l.length ≤ j → l.length ≤ k → partsF j l = partsF k l
  | 0, k, l, h1, h2 => by
    obtain rfl : l = [] := List.eq_nil_of_length_eq_zero (by omega)
    cases k <;> rfl
  | j + 1, 0, l, h1, h2 => by
    obtain rfl : l = [] := List.eq_nil_of_length_eq_zero (by omega)
    rfl
  | j + 1, k + 1, l, h1, h2 => by
    rw [partsF, partsF]
    cases hl : l.isEmpty with
    | true => rfl
    | false =>
      have := tail_lt hl
      rw [partsF_more j k _ (by omega) (by omega)]
theorem partsL_nil : partsL [] = [] := rfl
theorem partsL_cons {l : List UInt8} (h : l.isEmpty = false) : partsL l = (l.takeWhile (· != 10), !(l.dropWhile (· != 10)).isEmpty) :: partsL (l.dropWhile (· != 10)).tail := by
  have h1 := tail_lt h
  obtain ⟨k, hk⟩ : ∃ k, l.length = k + 1 := ⟨l.length - 1, by omega⟩
  unfold partsL
  rw [hk, partsF, h]
  simp only [Bool.false_eq_true, if_false]
  rw [partsF_more k _ _ (by omega) (Nat.le_refl _)]
/-- The variable's block, whatever is done elsewhere. -/
def MaxB (w : World) : Prop := ∃ cs t fz m, w.heap[1]? = some (.cells cs t fz) ∧ w.cell? ⟨1, 0, none⟩ = some (.int .i64 m)
theorem MaxAt.b {B : Nat} {w : World} (h : MaxAt B w) : MaxB w := by
  obtain ⟨m, hm⟩ := h w (Below.refl _ _)
  have h2 := hm
  unfold World.cell? at h2
  cases hh : w.heap[1]? with
  | none => simp [hh] at h2
  | some o =>
    cases o with
    | cells cs t fz => exact ⟨cs, t, fz, m, hh, hm⟩
    | _ => simp [hh] at h2
theorem MaxB.kept {w w' : World} (h : MaxB w) (hk : w'.heap[1]? = w.heap[1]?) : MaxB w' := by
  obtain ⟨cs, t, fz, m, hh, hm⟩ := h
  exact ⟨cs, t, fz, m, hk.trans hh, (World.cell?_of_block (a := ⟨1, 0, none⟩) hk).trans hm⟩
theorem cut_at (c : UInt8) (l : List UInt8) (hl : l.length ≤ 4000000000) (w : World) (hm : MaxB w) :
    Calls Tryd.prog 66 #[.string (strB l), .string (strB [c])] w fun e w' => e = .returned (.tuple #[.string (strB (l.takeWhile (· != c))), .string (strB (l.dropWhile (· != c)).tail), .bool (!(l.dropWhile (· != c)).isEmpty)]) ∧ ∃ n, w' = w.drewN n := by
  obtain ⟨_, _, _, m, _, hm⟩ := hm
  refine (Any.strings_Cut Tryd.lays145 (strB l) (strB [c]) m w (by rw [strB_size]; omega) hm).mono ?_
  rintro e w' ⟨rfl, hn⟩
  have e1 : (strB l).data.toList = l := by simp [strB]
  have e2 : (strB [c]).data.toList = [c] := by simp [strB]
  rw [e1, e2, cut_one]
  exact ⟨rfl, hn⟩
def boxLen (sb : Nat) (w : World) : Nat := (w.cell? ⟨sb, 0, none⟩).elim 0 fun v => match v with | .string S => S.size | _ => 0
def lineV (p : List UInt8 × Bool) : Array Value := #[.string (strB p.1), .bool p.2]
set_option maxRecDepth 100000 in
set_option maxHeartbeats 4000000 in
theorem parts_iter (n : Nat) (X : Nat → Prop) (sb : Nat) (s : List UInt8) (hs : s.length ≤ 4000000000) (w : World) (hb : Blk w sb 9 #[.string (strB s)]) (hX : ¬ X sb) (hm : MaxB w) (hg : 1 < w.heap.size) (hgs : 1 ≠ sb) (hXg : ¬ X 1) :
    SeqUntilN Fence.wide n Tryd.prog 65 #[.pointer (some ⟨sb, 0, none⟩)] lineV X (fun k => k = sb) (partsL s) w := by
  intro l J Jx W hW hJ hJx hY h0
  have hbW := hb.below hW hb.lt
  have hmW : MaxB W := hm.kept (hW.block _ hg)
  refine callsIn_of_wp Tryd.func65 rfl trivial ?_ rfl
  simp only [Tryd.ntmps65, List.size_toArray, List.length_cons, List.length_nil, Nat.reduceAdd, Nat.reduceSub, Array.replicate_succ, Array.replicate_zero, List.push_toArray, List.append_toArray, List.nil_append, List.cons_append]
  have HY := Lib.hid hY; clear hY
  have HJ := Lib.hid hJ; clear hJ
  have HJx := Lib.hid hJx; clear hJx
  have hsbW := hbW.lt
  clear hb hm hW
  gi_wp2
  gi_loopw [3] (fun p wr => ∃ (pre : List (List UInt8 × Bool)) (r : List UInt8), Hid (partsL s = pre ++ partsL r) ∧ r.length ≤ s.length ∧ Hid (J pre wr) ∧ Hid (Blk wr sb 9 #[.string (strB r)]) ∧ Hid (MaxB wr) ) (fun p wr => boxLen sb wr)
  case atStart => exact ⟨[], s, Lib.hid rfl, Nat.le_refl _, Lib.hid h0, Lib.hid hbW, Lib.hid hmW⟩
  case round =>
    clear h0 hbW hmW
    obtain ⟨pre, r, HP, hr, HJ0, HBk, HM⟩ := hrel
    have c0 := HBk.out.cell 0
    simp at c0
    have f0 := HBk.out.frozen 0
    have er := strB_empty r
    cases hz : r.isEmpty with
    | true =>
      rw [hz] at er
      obtain rfl : r = [] := List.isEmpty_iff.1 hz
      have HJe : Hid (J (partsL s) wr) := Lib.hid (by rw [HP.out, partsL_nil, List.append_nil]; exact HJ0.out)
      clear hz
      gi_wp2
      go_end0
      exact ⟨⟨_, rfl⟩, .inl HJe.out⟩
    | false =>
      rw [hz] at er
      have hcons := partsL_cons hz
      have htl := tail_lt hz
      rw [hcons] at HP
      have HC := Lib.hid (callsIn_wide (n := n - 1).2 (cut_at 10 r (by omega) wr HM.out))
      rw [show strB [10] = { data := #[10] } from rfl] at HC
      have hrm : boxLen sb wr = r.length := by unfold boxLen; rw [c0]; simp [strB_size]
      have HRM := Lib.hid hrm
      clear hz hcons hrm
      generalize r.takeWhile (· != 10) = ln at *
      generalize (!(r.dropWhile (· != 10)).isEmpty) = en at *
      generalize (r.dropWhile (· != 10)).tail = rest at *
      generalize strB r = SR at *
      gi_wp2_with (refine ⟨trivial, fun h => (by cases h), HC.out.mono ?_⟩; rintro e w1 ⟨rfl, nq, rfl⟩
                   have hJ1 := HJ.out _ _ _ HJ0.out (.of (below_drewN (Below.refl wr.heap.size wr) nq))
                   have hB1 := HBk.out.drewN nq
                   have hM1 : MaxB (wr.drewN nq) := HM.out
                   obtain ⟨fn, tmps, assign, body, hy, hR⟩ := HY.out pre (ln, en) (partsL rest) (wr.drewN nq) hJ1 HP.out
                   have HR := Lib.hid hR
                   simp only [lineV] at hy
                   clear hR hJ1)
      refine ⟨by simp [Fence.wide], HR.out.mono ?_⟩
      rintro e w2 (⟨rfl, hJ2, kx⟩ | ⟨rfl, hJx2⟩)
      · have hb2 : Blk w2 sb 9 #[.string SR] := kx.block _ _ _ _ hX hB1
        have hM2 : MaxB w2 := by
          obtain ⟨cs, t, fz, m, hh, hm⟩ := hM1
          exact MaxB.kept ⟨cs, t, fz, m, hh, hm⟩ ((kx.block _ _ _ _ hXg hh).trans hh.symm)
        have c2 := hb2.cell 0
        have f2 := hb2.frozen 0
        simp at c2
        have hsz2 := kx.size
        have HJ2 := Lib.hid hJ2
        have HB2 := Lib.hid hb2
        have HM2 := Lib.hid hM2
        clear hJ2 kx hb2 hM2 hB1 hM1 hy HR
        gi_wp2
        go_roundw
        case rel =>
          refine ⟨pre ++ [(ln, en)], rest, Lib.hid (by rw [HP.out]; simp), by omega, Lib.hid (HJ.out _ _ _ HJ2.out (BelowE.set (own := fun k => k = sb) w2 (p := ⟨sb, 0, none⟩) rfl _)), Lib.hid (HB2.out.set_ 0 (.string (strB rest))), Lib.hid (HM2.out.kept (Below.heap_setCell _ _ _ _ hgs))⟩
        case measure =>
          have hn : ∀ u, (w2.setCell ⟨sb, 0, none⟩ u).cell? ⟨sb, 0, none⟩ = some u := fun u => by
            have := (HB2.out.set_ 0 u).cell 0
            simpa using this
          rw [HRM.out, boxLen, hn]
          simp [strB_size]
          omega
      · have HJx2 := Lib.hid hJx2
        clear hJx2 hB1 hM1 hy HR
        gi_wp2
        refine bodyPost_ret (results_none rfl _ _ _) rfl ?_
        exact ⟨⟨_, rfl⟩, .inr ⟨_, _, _, HP.out, HJx2.out⟩⟩
end Go.Proofs.YtljeecocbcffcaaDoor

/- The program's Read of a text: walked. -/
namespace Go.Proofs.YtljeecocbcffcaaDoor
open Go.RowKit Go.Maps Go.WideMaps Go.Shelf
attribute [local go_sem] Oper.semAt_some

def goodP (p : List UInt8 × Bool) : Bool := p.2 && (validB (parseP p.1) && oneT (parseP p.1) == p.1)
def readP : List (List UInt8 × Bool) → List LineL → Nat → List LineL × Nat × Int
  | [], acc, _ => (acc, 0, 0)
  | p :: r, acc, n => if goodP p then readP r (acc ++ [parseP p.1]) (n + 1) else ([], n + 1, 5)
theorem readT_parts : ∀ (f : Nat) (s : List UInt8) (acc : List LineL) (n : Nat), s.length < f → readT f s acc n = readP (partsL s) acc n
  | 0, s, acc, n, h => by omega
  | f + 1, [], acc, n, h => rfl
  | f + 1, b :: s', acc, n, h => by
    have hz : (b :: s').isEmpty = false := rfl
    have htl := tail_lt hz
    rw [readT, partsL_cons hz, readP]
    generalize b :: s' = s at *
    cases hd : s.dropWhile (· != 10) with
    | nil => simp [goodP]
    | cons c rest =>
      rw [hd] at htl
      have ih := readT_parts f rest (acc ++ [parseP (s.takeWhile (· != 10))]) (n + 1) (by simp at htl; omega)
      simp only [goodP, List.isEmpty_cons, Bool.not_false, Bool.true_and, List.tail_cons]
      unfold lineP
      split
      · rename_i hno
        split at hno
        · cases hno
        · rename_i hc
          rw [if_neg hc]
      · rename_i x hx
        split at hx
        · rename_i hc
          injection hx with hx
          rw [if_pos hc, ← hx, ih]
        · cases hx
theorem readP_good : ∀ (xs : List (List UInt8 × Bool)) (acc : List LineL) (n : Nat), (∀ p ∈ xs, goodP p = true) → readP xs acc n = (acc ++ xs.map (fun p => parseP p.1), 0, 0)
  | [], acc, n, _ => by simp [readP]
  | p :: r, acc, n, h => by
    rw [readP, if_pos (h p (by simp)), readP_good r _ _ (fun q hq => h q (by simp [hq]))]
    simp
theorem readP_bad : ∀ (pre : List (List UInt8 × Bool)) (q : List UInt8 × Bool) (r : List (List UInt8 × Bool)) (acc : List LineL) (n : Nat), (∀ p ∈ pre, goodP p = true) → goodP q = false → readP (pre ++ q :: r) acc n = ([], n + pre.length + 1, 5)
  | [], q, r, acc, n, _, hq => by rw [List.nil_append, readP, if_neg (by rw [hq]; decide)]; simp
  | p :: pre, q, r, acc, n, h, hq => by
    rw [List.cons_append, readP, if_pos (h p (by simp)), readP_bad pre q r _ _ (fun p hp => h p (by simp [hp])) hq]
    simp; omega
theorem partsF_len : ∀ (k : Nat) (l : List UInt8), (partsF k l).length ≤ k
  | 0, _ => by simp [partsF]
  | k + 1, l => by
    rw [partsF]
    split
    · simp
    · have := partsF_len k (l.dropWhile (· != 10)).tail
      simp; omega
theorem partsF_small : ∀ (k : Nat) (l : List UInt8), ∀ p ∈ partsF k l, p.1.length ≤ l.length
  | 0, _, p, hp => by simp [partsF] at hp
  | k + 1, l, p, hp => by
    rw [partsF] at hp
    split at hp
    · simp at hp
    · rcases List.mem_cons.1 hp with rfl | hp
      · exact (List.takeWhile_sublist _).length_le
      · have := partsF_small k _ p hp
        have h2 := (List.dropWhile_sublist (p := (· != 10)) (l := l)).length_le
        rw [List.length_tail] at this
        omega
theorem parseP_ok {l : List UInt8} (hl : l.length ≤ 4000000000) : LOk (parseP l) := by
  have hc := cut_len l [58, 32]
  have sm : ∀ lab t : List UInt8, lab.length ≤ 4000000000 → t.length ≤ 4000000000 → (parseA lab t).label.length ≤ 4000000000 ∧ (parseA lab t).target.length ≤ 4000000000 ∧ (parseA lab t).frm.length ≤ 4000000000 ∧ (parseA lab t).fn ≤ 255 := by
    intro lab t h1 h2
    have hf := (fn_le _ _ (rfl : namedI (t.takeWhile (· != 32)) = _)).1
    have hd := (List.dropWhile_sublist (p := (· != 32)) (l := t)).length_le
    unfold parseA
    split
    · exact ⟨h1, by simp, by simp, hf⟩
    · rename_i c o ho
      rw [ho] at hd
      simp only [List.length_cons] at hd
      have t1 := (List.takeWhile_sublist (p := (· != 45)) (l := o)).length_le
      have t2 := (List.dropWhile_sublist (p := (· != 45)) (l := o)).length_le
      split
      · exact ⟨h1, by simp, by simp, hf⟩
      · refine ⟨h1, by simp only; omega, ?_, hf⟩
        simp only [List.length_tail]; omega
  have key : (parseP l).label.length ≤ 4000000000 ∧ (parseP l).target.length ≤ 4000000000 ∧ (parseP l).frm.length ≤ 4000000000 ∧ (parseP l).fn ≤ 255 := by
    unfold parseP
    split
    · exact sm _ _ (by omega) (by omega)
    · exact sm _ _ (by simp) hl
  exact ⟨key.2.2.2, parseP_is32 l, by omega, by omega, by omega⟩
theorem line_info : (Tryd.prog.info? 27).map (fun i => (i.zero, i.size, i.bytes)) = some (some (.agg #[.string ByteArray.empty, .int .u8 0, .int .i32 0, .string ByteArray.empty, .string ByteArray.empty]), 5, 56) := by kernel_rfl
theorem iParts (S : ByteArray) (w : World) : Calls Tryd.prog 51 #[.string S] w fun e w' => e = .returned (.func (.func 65) #[] #[.pointer (some ⟨w.heap.size, 0, none⟩)]) ∧ w' = w.alloc (.cells #[.string S] 9) := by
  go_enter Tryd.func51, Tryd.ntmps51
  go_wp2
  go_ret
  exact ⟨rfl, rfl⟩
end Go.Proofs.YtljeecocbcffcaaDoor

/- The program's Read of a text: walked. -/
namespace Go.Proofs.YtljeecocbcffcaaDoor
open Go.RowKit Go.Maps Go.WideMaps Go.Shelf
attribute [local go_sem] Oper.semAt_some

theorem KeepC.of_below {X : Nat → Prop} {A B : World} (h : Below A.heap.size A B) : KeepC X A B := ⟨h.size, fun k _ _ _ _ ho => (h.block k (Array.getElem?_eq_some_iff.1 ho).1).trans ho⟩
theorem KeepC.grown {X : Nat → Prop} {A B : World} {row : Option Nat} (h : A.grownBy B row) (hx : ∀ g, row = some g → X g) : KeepC X A B :=
  ⟨h.size, fun k _ _ _ hk ho => (h.block k (Array.getElem?_eq_some_iff.1 ho).1 (fun e => hk (hx k e.symm))).trans ho⟩
theorem KeepsOthers.of_below {A B : World} (h : Below A.heap.size A B) : KeepsOthers A B := KeepsOthers.of_grownBy (only_of_below h none) (fun _ _ e => by cases e)
theorem own_keepE {w w' : World} {base e size n : Nat} {v : Value} {xs : List Value} (h : w.ownsRow base e size v n xs) (hk : ∀ g, base ≤ g → g < w.heap.size → w'.heap[g]? = w.heap[g]?) : w'.ownsRow base e size v n xs := by
  refine ⟨h.1, ?_⟩
  rcases h.2 with hn | ⟨g, cap, cur, e1, hb, hg, rest⟩
  · exact .inl hn
  · exact .inr ⟨g, cap, cur, e1, hb, (hk g hb (Array.getElem?_eq_some_iff.1 hg).1).trans hg, rest⟩
def RetRd (s : List UInt8) (w : World) (e : Ending) (w' : World) : Prop :=
  Below w.heap.size w w' ∧ ∃ A c, e = .returned (.tuple #[.slice A (readT (s.length + 1) s [] 0).1.length c, .int .i64 ((readT (s.length + 1) s [] 0).2.1 : Nat), .int .i64 (readT (s.length + 1) s [] 0).2.2]) ∧
    w'.ownsRow w.heap.size 27 5 (.slice A (readT (s.length + 1) s [] 0).1.length c) (readT (s.length + 1) s [] 0).1.length (linesL (readT (s.length + 1) s [] 0).1)
def okI (B : Nat) (w : World) (pre : List (List UInt8 × Bool)) (W : World) : Prop :=
  ∃ v, Blk W w.heap.size 24 #[v] ∧ W.ownsRow (w.heap.size + 6) 27 5 v pre.length (linesL (pre.map fun p => parseP p.1)) ∧ Blk W (w.heap.size + 1) 3 #[.int .i64 (pre.length : Nat)] ∧ Blk W (w.heap.size + 2) 29 #[.int .i64 0] ∧ S6 B w W ∧ ∀ p ∈ pre, goodP p = true
def okX (B : Nat) (w : World) (c : Code) (pre : List (List UInt8 × Bool)) (W : World) : Prop :=
  c = .exit 0 ∧ ∃ pre' q v, pre = pre' ++ [q] ∧ (∀ p ∈ pre', goodP p = true) ∧ goodP q = false ∧ Blk W w.heap.size 24 #[v] ∧ Blk W (w.heap.size + 1) 3 #[.int .i64 (pre.length : Nat)] ∧ Blk W (w.heap.size + 2) 29 #[.int .i64 5] ∧ S6 B w W
def ownR (w : World) (k : Nat) : Prop := k = w.heap.size + 3 ∨ w.heap.size + 4 ≤ k ∧ k < w.heap.size + 4 + 2
theorem Blk.keptE {W W' : World} {g : Nat} {t : TypeId} {cs : Array Value} {own : Nat → Prop} (h : Blk W g t cs) (hb : BelowE W.heap.size own W W') (hg : ¬ own g) : Blk W' g t cs := (hb.block g h.lt hg).trans h
theorem S6.keptE {B : Nat} {w W W' : World} (h : S6 B w W) (hB : B ≤ w.heap.size) (hb : BelowE W.heap.size (ownR w) W W') : S6 B w W' :=
  h.callB hB ⟨hb.os, hb.tape, hb.output, hb.size, fun k hk => hb.block k (by have := h.k.size; omega) (by rintro (h | h) <;> omega)⟩
theorem okI_deep (B : Nat) (w : World) (hB : B ≤ w.heap.size) : DeepN (ownR w) (okI B w) := by
  rintro pre W W' ⟨v, b0, ho, b1, b2, S, hg⟩ hb
  refine ⟨v, b0.keptE hb (by rintro (h | h) <;> omega), own_keepE ho fun g h1 h2 => hb.block g h2 (by rintro (h | h) <;> omega), b1.keptE hb (by rintro (h | h) <;> omega), b2.keptE hb (by rintro (h | h) <;> omega), S.keptE hB hb, hg⟩
theorem okX_deep (B : Nat) (w : World) (hB : B ≤ w.heap.size) (c : Code) : DeepN (ownR w) (okX B w c) := by
  rintro pre W W' ⟨hc, pre', q, v, e1, e2, e3, b0, b1, b2, S⟩ hb
  exact ⟨hc, pre', q, v, e1, e2, e3, b0.keptE hb (by rintro (h | h) <;> omega), b1.keptE hb (by rintro (h | h) <;> omega), b2.keptE hb (by rintro (h | h) <;> omega), S.keptE hB hb⟩
/-- What stands in the middle of a round. -/
structure Mid (B : Nat) (w : World) (v : Value) (n0 : Nat) (xs : List Value) (W2 W : World) : Prop where
  l : Blk W w.heap.size 24 #[v]
  own : W.ownsRow (w.heap.size + 6) 27 5 v n0 xs
  n : Blk W (w.heap.size + 1) 3 #[.int .i64 ((n0 : Int) + 1)]
  e : Blk W (w.heap.size + 2) 29 #[.int .i64 0]
  s : S6 B w W
  kc : KeepC (fun k => w.heap.size ≤ k ∧ k ≠ w.heap.size + 3) W2 W
  ko : KeepsOthers W2 W
  size : W2.heap.size ≤ W.heap.size
theorem Mid.call {B : Nat} {w : World} {v : Value} {n0 : Nat} {xs : List Value} {W2 W W' : World} (h : Mid B w v n0 xs W2 W) (hb : Below W.heap.size W W') : Mid B w v n0 xs W2 W' :=
  ⟨h.l.call hb, own_keepE h.own (fun g _ h2 => hb.block g h2), h.n.call hb, h.e.call hb, h.s.call hb, h.kc.trans (KeepC.of_below hb), h.ko.trans (KeepsOthers.of_below hb), Nat.le_trans h.size hb.size⟩
theorem Mid.bad {B : Nat} {w : World} {v : Value} {n0 : Nat} {xs : List Value} {W2 W : World} (h : Mid B w v n0 xs W2 W) (hB : B ≤ w.heap.size) {pre : List (List UInt8 × Bool)} {x : List UInt8 × Bool} (hp : pre.length = n0) (hg : ∀ p ∈ pre, goodP p = true) (hq : goodP x = false) :
    KeepsOthers W2 (W.setCell ⟨w.heap.size + 2, 0, none⟩ (.int .i64 5)) ∧ okX B w (.exit 0) (pre ++ [x]) (W.setCell ⟨w.heap.size + 2, 0, none⟩ (.int .i64 5)) := by
  refine ⟨h.ko.trans (KeepsOthers.setCell _ _ _), rfl, pre, x, v, rfl, hg, hq, h.l.far (by simp) _, ?_, ?_, h.s.set hB (by simp) _⟩
  · have e : ((pre ++ [x]).length : Int) = (n0 : Int) + 1 := by simp; omega
    rw [e]; exact h.n.far (by simp) _
  · have := h.e.set_ 0 (.int .i64 5)
    simpa using this
theorem blk_news {w : World} {g : Nat} {t : TypeId} {news : Array Value} (hb : Blk w g t news) : ∀ (j : Nat) (u : Value), news.toList[j]? = some u → w.cell? ((⟨g, 0, none⟩ : Addr).add j) = some u := by
  intro j u hu
  have := hb.cell j
  have hadd : (⟨g, 0, none⟩ : Addr).add j = ⟨g, j, none⟩ := by unfold Addr.add; split <;> simp_all
  rw [hadd, this]; simpa using hu
theorem blk_put {W : World} {g : Nat} {t : TypeId} {cs : Array Value} {D : Nat} {o : Obj} (h : Blk W g t cs) (hne : g ≠ D) : Blk (W.putObj D o) g t cs := (World.putObj_heap_other hne).trans h
theorem own_put {W : World} {base e size n D : Nat} {v : Value} {xs : List Value} {o : Obj} (h : W.ownsRow base e size v n xs) (hD : W.heap[D]? = some (.deferred (some []))) : (W.putObj D o).ownsRow base e size v n xs := by
  refine ⟨h.1, ?_⟩
  rcases h.2 with hn | ⟨g, cap, cur, e1, hb, hg, rest⟩
  · exact .inl hn
  · exact .inr ⟨g, cap, cur, e1, hb, (World.putObj_heap_other (by rintro rfl; rw [hD] at hg; cases hg)).trans hg, rest⟩
/-- Three cells of results, of which two keep what they hold. -/
theorem three0 {W : World} {g : Nat} {a b : Value} (u : Value) (h : W.cell? ⟨g + 1, 0, none⟩ = some a ∧ W.cell? ⟨g + 1 + 1, 0, none⟩ = some b) : (W.setCell ⟨g, 0, none⟩ u).cell? ⟨g + 1, 0, none⟩ = some a ∧ (W.setCell ⟨g, 0, none⟩ u).cell? ⟨g + 1 + 1, 0, none⟩ = some b :=
  ⟨(World.cell?_setCell_other _ _ _ _ (by simp)).trans h.1, (World.cell?_setCell_other _ _ _ _ (by intro e; injection e with e _; omega)).trans h.2⟩
theorem three1 {W : World} {g : Nat} {a b : Value} (h : W.cell? ⟨g + 1, 0, none⟩ = some a ∧ W.cell? ⟨g + 1 + 1, 0, none⟩ = some b) : (W.setCell ⟨g + 1, 0, none⟩ a).cell? ⟨g + 1, 0, none⟩ = some a ∧ (W.setCell ⟨g + 1, 0, none⟩ a).cell? ⟨g + 1 + 1, 0, none⟩ = some b :=
  ⟨by simp [go_sem, h.1], (World.cell?_setCell_other _ _ _ _ (by simp)).trans h.2⟩
theorem three2 {W : World} {g : Nat} {a b : Value} (h : W.cell? ⟨g + 1, 0, none⟩ = some a ∧ W.cell? ⟨g + 1 + 1, 0, none⟩ = some b) : (W.setCell ⟨g + 1 + 1, 0, none⟩ b).cell? ⟨g + 1, 0, none⟩ = some a ∧ (W.setCell ⟨g + 1 + 1, 0, none⟩ b).cell? ⟨g + 1 + 1, 0, none⟩ = some b :=
  ⟨(World.cell?_setCell_other _ _ _ _ (by simp)).trans h.1, by simp [go_sem, h.2]⟩
theorem Mid.alloc {B : Nat} {w : World} {v : Value} {n0 : Nat} {xs : List Value} {W2 W : World} (h : Mid B w v n0 xs W2 W) (o : Obj) : Mid B w v n0 xs W2 (W.alloc o) := h.call ((Below.refl _ _).alloc (Nat.le_refl _) _)
theorem linesL_snoc (ls : List LineL) (x : LineL) : linesL (ls ++ [x]) = linesL ls ++ (lineC x).toList := by simp [linesL]
theorem Mid.good {B : Nat} {w : World} {v v' : Value} {n0 : Nat} {pre : List (List UInt8 × Bool)} {x : List UInt8 × Bool} {W2 W w7 : World} {cs : Array Value} (h : Mid B w v n0 (linesL (pre.map fun p => parseP p.1)) W2 W) (hB : B ≤ w.heap.size) (hp : pre.length = n0) (hg : ∀ p ∈ pre, goodP p = true) (hq : goodP x = true)
    (hc : lineC (parseP x.1) = cs) (ho : w7.ownsRow (w.heap.size + 6) 27 5 v' (n0 + 1) (linesL (pre.map fun p => parseP p.1) ++ cs.toList)) (hg7 : (W.alloc (.cells cs 27)).grownBy w7 v.ownBlock) :
    KeepC (fun k => w.heap.size ≤ k ∧ k ≠ w.heap.size + 3) W2 (w7.setCell ⟨w.heap.size, 0, none⟩ v') ∧ KeepsOthers W2 (w7.setCell ⟨w.heap.size, 0, none⟩ v') ∧ okI B w (pre ++ [x]) (w7.setCell ⟨w.heap.size, 0, none⟩ v') := by
  have H := h.alloc (.cells cs 27)
  have nl := fun (g : Nat) (t : TypeId) (c : Array Value) (hb : Blk (W.alloc (.cells cs 27)) g t c) (ht : 27 ≠ t) => hb.grown hg7 (fun e => own_blk_ne H.own hb ht e.symm)
  have hlt : ∀ g, v.ownBlock = some g → w.heap.size + 6 ≤ g ∧ g < (W.alloc (.cells cs 27)).heap.size := fun g e => H.own.lt g e
  refine ⟨(H.kc.trans (KeepC.grown hg7 (fun g e => by have := hlt g e; omega))).trans (KeepC.set _ _ (by simp) _), (H.ko.trans (KeepsOthers.of_grownBy hg7 ?_)).trans (KeepsOthers.setCell _ _ _), v', ?_, ?_, ?_, ?_, ?_, ?_⟩
  · intro j o e hj
    rcases H.own.2 with ⟨rfl, _⟩ | ⟨g, cap, cur, rfl, _, hh, _⟩
    · simp [Value.ownBlock] at e
    · have : g = j := by simpa [Value.ownBlock] using e
      subst this
      rw [hh] at hj; injection hj with hj; subst hj; rfl
  · have := (nl _ _ _ H.l (by decide)).set_ 0 v'
    simpa using this
  · rw [List.map_append, List.map_cons, List.map_nil, linesL_snoc, hc]
    have e : (pre ++ [x]).length = n0 + 1 := by simp [hp]
    rw [e]
    exact own_keepE ho fun g h1 _ => Below.heap_setCell _ _ _ _ (by simp; omega)
  · have e : ((pre ++ [x]).length : Int) = (n0 : Int) + 1 := by simp; omega
    rw [e]; exact (nl _ _ _ H.n (by decide)).far (by simp) _
  · exact (nl _ _ _ H.e (by decide)).far (by simp) _
  · refine (h.s.alloc (.cells cs 27)).callB hB (((Below.refl _ _).grown hg7 (by have := H.s.k.size; omega) (fun g e => by have := hlt g e; omega)).setCell (by simp) _)
  · intro p hp'
    rcases List.mem_append.1 hp' with h1 | h1
    · exact hg p h1
    · rw [List.mem_singleton.1 h1]; exact hq
set_option maxRecDepth 100000 in
set_option maxHeartbeats 4000000 in
theorem pReadL (s : List UInt8) (hs : s.length ≤ 4000000000) (B : Nat) (w : World) (hL : Laid5 B w) (hm : MaxAt B w) (hB : B ≤ w.heap.size) (hgB : 1 < B) :
    Calls Tryd.prog 25 #[.string (strB s)] w (RetRd s w) := by
  have S := S6.start hL hm hB
  have HB := Lib.hid hB
  clear hL hm
  refine (callsIn_wide (n := 9)).1 ?_
  refine callsIn_of_wp_marks Tryd.func25 rfl trivial ?_ rfl
  refine wpIn_wide.2 ?_
  simp only [Tryd.ntmps25, List.size_toArray, List.length_cons, List.length_nil, Nat.reduceAdd, Nat.reduceSub, Array.replicate_succ, Array.replicate_zero, List.push_toArray, List.append_toArray, List.nil_append, List.cons_append]
  go_wp2
  go_step3
  go_wp2
  go_step3
  go_wp2_with (go_at_call 51; refine (iParts _ _).mono ?_; rintro e w' ⟨rfl, rfl⟩)
  have k0 : Below w.heap.size w ((((w.alloc (Obj.cells #[.slice none 0 0] 24)).alloc (Obj.cells #[.int .i64 0] 3)).alloc (Obj.cells #[.int .i64 0] 29)).alloc (Obj.cells #[.string (strB s)] 9)) :=
    ((((Below.refl _ w).alloc (Nat.le_refl _) _).alloc (by simp) _).alloc (by simp <;> omega) _).alloc (by simp <;> omega) _
  obtain ⟨W0, hW0⟩ : ∃ W0, ((((w.alloc (Obj.cells #[.slice none 0 0] 24)).alloc (Obj.cells #[.int .i64 0] 3)).alloc (Obj.cells #[.int .i64 0] 29)).alloc (Obj.cells #[.string (strB s)] 9)) = W0 := ⟨_, rfl⟩
  have b0 : Blk W0 w.heap.size 24 #[.slice none 0 0] := by rw [← hW0]; exact (((Blk.new w _ _).alloc _).alloc _).alloc _
  have b1 : Blk W0 (w.heap.size + 1) 3 #[.int .i64 0] := by
    rw [← hW0]; have h := ((Blk.new (w.alloc (Obj.cells #[.slice none 0 0] 24)) 3 #[.int .i64 0]).alloc (Obj.cells #[.int .i64 0] 29)).alloc (Obj.cells #[.string (strB s)] 9); rwa [World.size_alloc] at h
  have b2 : Blk W0 (w.heap.size + 2) 29 #[.int .i64 0] := by
    rw [← hW0]; have h := (Blk.new ((w.alloc (Obj.cells #[.slice none 0 0] 24)).alloc (Obj.cells #[.int .i64 0] 3)) 29 #[.int .i64 0]).alloc (Obj.cells #[.string (strB s)] 9); rwa [World.size_alloc, World.size_alloc] at h
  have b3 : Blk W0 (w.heap.size + 3) 9 #[.string (strB s)] := by
    rw [← hW0]; have h := Blk.new (((w.alloc (Obj.cells #[.slice none 0 0] 24)).alloc (Obj.cells #[.int .i64 0] 3)).alloc (Obj.cells #[.int .i64 0] 29)) 9 #[.string (strB s)]; rwa [World.size_alloc, World.size_alloc, World.size_alloc] at h
  have hsz : W0.heap.size = w.heap.size + 4 := by rw [← hW0]; simp
  rw [hW0] at k0
  have S0 := S.callB HB.out k0
  rw [hW0]
  clear hW0 S
  refine wpIn_wide.1 (wpIn_range_untilN (F := Fence.wide) (n := 9) rfl rfl (gf := 65) (lb := #[.pointer (some ⟨w.heap.size + 3, 0, none⟩)]) rfl trivial (enters_of Tryd.func65 (by kernel_rfl) rfl) (X := fun k => w.heap.size ≤ k ∧ k ≠ w.heap.size + 3) (own := fun k => k = w.heap.size + 3) (encs := lineV)
    (by rintro k rfl; omega) (parts_iter 8 _ (w.heap.size + 3) s hs W0 b3 (fun h => h.2 rfl) S0.m.b (by omega) (by omega) (fun h => by have := h.1; omega)) (Below.refl _ _) (fun _ => rfl)
    (okI B w) (okX B w) ?deep ?deepx ⟨_, b0, World.ownsRow_nil _ _ _ _, b1, b2, S0, by simp⟩ ?round ?done ?stop)
  case deep => rw [hsz]; exact okI_deep B w HB.out
  case deepx => rw [hsz]; exact okX_deep B w HB.out
  case round =>
    clear b0 b1 b2 b3 k0 S0
    rintro l pre x r W ⟨v, b0, hown, b1, b2, S, hgood⟩ hxs hsW
    have hxm : x ∈ partsL s := by rw [hxs]; simp
    have hxl : x.1.length ≤ 4000000000 := Nat.le_trans (partsF_small _ _ x hxm) hs
    have hpl : pre.length < 4000000000 := by
      have h1 := partsF_len s.length s
      have h2 : (partsL s).length = pre.length + (r.length + 1) := by rw [hxs]; simp
      unfold partsL at h2
      omega
    gi_wp2
    refine ⟨KeepC.refl _ _, KeepsOthers.refl _, ?_⟩
    rintro W2 hgr ⟨hl0, hl1⟩
    have hne : ∀ k, k < w.heap.size + 4 → some k ≠ some l := fun k hk e => by injection e; omega
    have c0 := b0.grown hgr (hne _ (by omega))
    have c1 := b1.grown hgr (hne _ (by omega))
    have c2 := b2.grown hgr (hne _ (by omega))
    have ho := own_keepE hown (w' := W2) fun g h1 h2 => hgr.block g h2 (by intro e; injection e; omega)
    have S2 := S.callB HB.out ((Below.refl _ _).grown hgr (by omega) (fun k e => by injection e; omega))
    have hs2 := hgr.size
    obtain ⟨n0, hn0⟩ : ∃ n0, pre.length = n0 := ⟨_, rfl⟩
    have HP := Lib.hid hn0
    rw [hn0] at c1 ho hpl
    have e1 := c1.cell 0
    have f1 := c1.frozen 0
    simp at e1
    have w1 : IntKind.i64.wrap ((n0 : Int) + 1) = (n0 : Int) + 1 := IntWalk.i64_in _ (by omega)
    have HXS := Lib.hid hxs
    have HG := Lib.hid hgood
    clear b0 b1 b2 hown S hgr hn0 hxs hgood
    obtain ⟨W3, hW3⟩ : ∃ W3, W2.setCell ⟨w.heap.size + 1, 0, none⟩ (.int .i64 ((n0 : Int) + 1)) = W3 := ⟨_, rfl⟩
    have d0 : Blk W3 _ _ _ := hW3 ▸ (c0.far (p := ⟨w.heap.size + 1, 0, none⟩) (by simp) (.int .i64 ((n0 : Int) + 1)))
    have d1 : Blk W3 (w.heap.size + 1) 3 #[.int .i64 ((n0 : Int) + 1)] := by have h := c1.set_ 0 (.int .i64 ((n0 : Int) + 1)); rw [hW3] at h; simpa using h
    have d2 : Blk W3 _ _ _ := hW3 ▸ (c2.far (p := ⟨w.heap.size + 1, 0, none⟩) (by simp) (.int .i64 ((n0 : Int) + 1)))
    have ho3 := own_keepE ho (w' := W3) fun g h1 h2 => by rw [← hW3]; exact Below.heap_setCell _ _ _ _ (by simp; omega)
    have S3 : S6 B w W3 := hW3 ▸ (S2.set HB.out (p := ⟨w.heap.size + 1, 0, none⟩) (by simp) _)
    have HC := Lib.hid (fun n => callsIn_wide (n := n).2 (pRead1 x.1 hxl B W3 S3.l S3.m S3.b))
    have kc3 : KeepC (fun k => w.heap.size ≤ k ∧ k ≠ w.heap.size + 3) W2 W3 := by rw [← hW3]; exact KeepC.set _ _ (by simp) _
    have ko3 : KeepsOthers W2 W3 := by rw [← hW3]; exact KeepsOthers.setCell _ _ _
    have hs3 : W2.heap.size = W3.heap.size := by rw [← hW3]; simp
    have M3 : Mid B w v n0 (linesL (pre.map fun p => parseP p.1)) W2 W3 := ⟨d0, ho3, d1, d2, S3, kc3, ko3, by omega⟩
    clear d0 ho3 d1 d2 S3 kc3 ko3 c0 c1 c2 ho S2
    simp only [lineV]
    have hyo := parseP_ok hxl
    have hgd : goodP x = (x.2 && (validB (parseP x.1) && oneT (parseP x.1) == x.1)) := rfl
    have hcmp := str_eq_iff (oneT (parseP x.1)) (strB x.1)
    rw [show (strB x.1).data.toList = x.1 by simp [strB]] at hcmp
    have HVA := Lib.hid (fun n w h1 h2 => callsIn_wide (n := n).2 (pValid (parseP x.1) hyo B w h1 h2))
    have HON := Lib.hid (fun n w h1 h2 => callsIn_wide (n := n).2 (pOne (parseP x.1) hyo B w h1 h2))
    have hlin : lineC (parseP x.1) = #[.string (strB (parseP x.1).label), .int .u8 (parseP x.1).fn, .int .i32 (parseP x.1).arg, .string (strB (parseP x.1).target), .string (strB (parseP x.1).frm)] := rfl
    have HLIN := Lib.hid hlin
    rw [hlin] at HC HVA HON
    have HGD := Lib.hid hgd
    clear hgd hlin
    generalize hxt : strB x.1 = ST at *
    generalize hxe : x.2 = en at *
    generalize strB (oneT (parseP x.1)) = SO at *
    generalize (oneT (parseP x.1) == x.1) = ceq at *
    generalize validB (parseP x.1) = vb at *
    generalize strB (parseP x.1).label = YL at *
    generalize strB (parseP x.1).target = YT at *
    generalize strB (parseP x.1).frm = YF at *
    generalize (parseP x.1).fn = yf at *
    generalize (parseP x.1).arg = ya at *
    clear hxt hxe
    cases en
    · have hbad := HGD.out
      rw [Bool.false_and] at hbad
      have HBAD := Lib.hid hbad
      clear hbad
      gi_wp2_with (first
       | (refine ⟨trivial, ?_⟩; (with_reducible refine (CallsIn.inRound l (HC.out _)).mono ?_); rintro e w4 ⟨rfl, hb4⟩
          have M4 := (M3.call hb4).alloc (.cells #[.string YL, .int .u8 yf, .int .i32 ya, .string YT, .string YF] 27)
          have y4 := Blk.new w4 27 #[.string YL, .int .u8 yf, .int .i32 ya, .string YT, .string YF]
          have l4 := M4.s.l
          have b4 := M4.s.b
          have e4 := M4.e.cell 0
          have f4 := M4.e.frozen 0
          simp at e4
          )
       | (refine ⟨trivial, ?_⟩))
      exact M4.bad HB.out HP.out HG.out HBAD.out
    cases vb
    · have hbad := HGD.out
      rw [Bool.false_and, Bool.and_false] at hbad
      have HBAD := Lib.hid hbad
      clear hbad
      gi_wp2_with (first
       | (refine ⟨trivial, ?_⟩; (with_reducible refine (CallsIn.inRound l (HC.out _)).mono ?_); rintro e w4 ⟨rfl, hb4⟩
          have M4 := (M3.call hb4).alloc (.cells #[.string YL, .int .u8 yf, .int .i32 ya, .string YT, .string YF] 27)
          have y4 := Blk.new w4 27 #[.string YL, .int .u8 yf, .int .i32 ya, .string YT, .string YF]
          have l4 := M4.s.l
          have b4 := M4.s.b
          have e4 := M4.e.cell 0
          have f4 := M4.e.frozen 0
          simp at e4
          )
       | (refine ⟨trivial, ?_⟩; (with_reducible refine (CallsIn.inRound l (HVA.out _ _ l4 b4)).mono ?_); rintro e w5 ⟨rfl, hb5⟩
          have M5 := M4.call hb5
          have y5 := y4.call hb5
          have l5 := M5.s.l
          have b5 := M5.s.b
          have e5 := M5.e.cell 0
          have f5 := M5.e.frozen 0
          have y50 := y5.cell 0
          have y51 := y5.cell 1
          have y52 := y5.cell 2
          have y53 := y5.cell 3
          have y54 := y5.cell 4
          simp at e5 y50 y51 y52 y53 y54
          )
       | (refine ⟨trivial, ?_⟩))
      exact M5.bad HB.out HP.out HG.out HBAD.out
    cases ceq
    · have hbad := HGD.out
      rw [Bool.and_false, Bool.and_false] at hbad
      have HBAD := Lib.hid hbad
      clear hbad
      gi_wp2_with (first
       | (refine ⟨trivial, ?_⟩; (with_reducible refine (CallsIn.inRound l (HC.out _)).mono ?_); rintro e w4 ⟨rfl, hb4⟩
          have M4 := (M3.call hb4).alloc (.cells #[.string YL, .int .u8 yf, .int .i32 ya, .string YT, .string YF] 27)
          have y4 := Blk.new w4 27 #[.string YL, .int .u8 yf, .int .i32 ya, .string YT, .string YF]
          have l4 := M4.s.l
          have b4 := M4.s.b
          have e4 := M4.e.cell 0
          have f4 := M4.e.frozen 0
          simp at e4
          )
       | (refine ⟨trivial, ?_⟩; (with_reducible refine (CallsIn.inRound l (HVA.out _ _ l4 b4)).mono ?_); rintro e w5 ⟨rfl, hb5⟩
          have M5 := M4.call hb5
          have y5 := y4.call hb5
          have l5 := M5.s.l
          have b5 := M5.s.b
          have e5 := M5.e.cell 0
          have f5 := M5.e.frozen 0
          have y50 := y5.cell 0
          have y51 := y5.cell 1
          have y52 := y5.cell 2
          have y53 := y5.cell 3
          have y54 := y5.cell 4
          simp at e5 y50 y51 y52 y53 y54
          )
       | (refine ⟨trivial, ?_⟩; (with_reducible refine (CallsIn.inRound l (HON.out _ _ l5 b5)).mono ?_); rintro e w6 ⟨rfl, hb6⟩
          have M6 := M5.call hb6
          have y6 := y5.call hb6
          have e6 := M6.e.cell 0
          have f6 := M6.e.frozen 0
          have q60 := M6.l.cell 0
          have q61 := M6.l.frozen 0
          have y60 := y6.cell 0
          have y61 := y6.cell 1
          have y62 := y6.cell 2
          have y63 := y6.cell 3
          have y64 := y6.cell 4
          simp at e6 q60 y60 y61 y62 y63 y64
          )
       | (refine ⟨trivial, ?_⟩))
      exact M6.bad HB.out HP.out HG.out HBAD.out
    · have hgood := HGD.out
      rw [Bool.and_true, Bool.and_true] at hgood
      have HGOOD := Lib.hid hgood
      clear hgood
      obtain ⟨i0, hi0, hz0, hz1, hz2⟩ := info_parts line_info
      gi_wp2_with (first
       | (refine ⟨trivial, ?_⟩; (with_reducible refine (CallsIn.inRound l (HC.out _)).mono ?_); rintro e w4 ⟨rfl, hb4⟩
          have M4 := (M3.call hb4).alloc (.cells #[.string YL, .int .u8 yf, .int .i32 ya, .string YT, .string YF] 27)
          have y4 := Blk.new w4 27 #[.string YL, .int .u8 yf, .int .i32 ya, .string YT, .string YF]
          have l4 := M4.s.l
          have b4 := M4.s.b
          have e4 := M4.e.cell 0
          have f4 := M4.e.frozen 0
          simp at e4
          )
       | (refine ⟨trivial, ?_⟩; (with_reducible refine (CallsIn.inRound l (HVA.out _ _ l4 b4)).mono ?_); rintro e w5 ⟨rfl, hb5⟩
          have M5 := M4.call hb5
          have y5 := y4.call hb5
          have l5 := M5.s.l
          have b5 := M5.s.b
          have e5 := M5.e.cell 0
          have f5 := M5.e.frozen 0
          have y50 := y5.cell 0
          have y51 := y5.cell 1
          have y52 := y5.cell 2
          have y53 := y5.cell 3
          have y54 := y5.cell 4
          simp at e5 y50 y51 y52 y53 y54
          )
       | (refine ⟨trivial, ?_⟩; (with_reducible refine (CallsIn.inRound l (HON.out _ _ l5 b5)).mono ?_); rintro e w6 ⟨rfl, hb6⟩
          have M6 := M5.call hb6
          have y6 := y5.call hb6
          have e6 := M6.e.cell 0
          have f6 := M6.e.frozen 0
          have q60 := M6.l.cell 0
          have q61 := M6.l.frozen 0
          have y60 := y6.cell 0
          have y61 := y6.cell 1
          have y62 := y6.cell 2
          have y63 := y6.cell 3
          have y64 := y6.cell 4
          simp at e6 q60 y60 y61 y62 y63 y64
          have N6 := M6.own.alloc (.cells #[.string YL, .int .u8 yf, .int .i32 ya, .string YT, .string YF] 27)
          have r6 := Blk.new w6 27 #[.string YL, .int .u8 yf, .int .i32 ya, .string YT, .string YF]
          have s6 := M6.size
          )
       | (gi_at_builtin
          refine wpListIn_append_own_at _ rfl (.tmp 29) (.tmp 31) 24 rfl (w.heap.size + 6) 27 i0 _ 5 56 Tryd.underlying24 hi0 hz0 hz1 hz2 rfl (by decide) v n0 _ rfl N6 ⟨w6.heap.size, 0, none⟩ 1 1 [.string YL, .int .u8 yf, .int .i32 ya, .string YT, .string YF] rfl rfl (blk_news r6) (by simp [Value.oneCell']) (by unfold maxLen; omega) (by omega) (by simp; omega) ?_
          intro v' w7 hown7 hg7 _ _
          have L6 := M6.l.alloc (.cells #[.string YL, .int .u8 yf, .int .i32 ya, .string YT, .string YF] 27)
          have L7 := L6.grown hg7 (fun h => own_blk_ne N6 L6 (by decide) h.symm)
          obtain ⟨A7, c7, rfl⟩ := own_form hown7
          have q70 := L7.cell 0
          have q71 := L7.frozen 0
          simp at q70
          )
       | (refine ⟨trivial, ?_⟩))
      exact M6.good HB.out HP.out HG.out HGOOD.out HLIN.out hown7 hg7
  case done =>
    clear b0 b1 b2 b3 k0 S0
    rintro D W ⟨v, b0, hown, b1, b2, S, hg⟩ hK hD
    obtain ⟨A, c, rfl⟩ := own_form hown
    have c0 := b0.cell 0
    have c1 := b1.cell 0
    have c2 := b2.cell 0
    have f0 := b0.frozen 0
    have f1 := b1.frozen 0
    have f2 := b2.frozen 0
    simp at c0 c1 c2
    go_wp2
    have hend := readP_good (partsL s) [] 0 hg
    rw [← readT_parts (s.length + 1) s [] 0 (by omega)] at hend
    have HEND := Lib.hid hend
    clear hend hg
    obtain ⟨Wf, hWf⟩ : ∃ Wf, (((W.setCell ⟨w.heap.size, 0, none⟩ (.slice A (partsL s).length c)).setCell ⟨w.heap.size + 1, 0, none⟩ (.int .i64 0)).setCell ⟨w.heap.size + 2, 0, none⟩ (.int .i64 0)) = Wf := ⟨_, rfl⟩
    have kf : Below w.heap.size w Wf := by rw [← hWf]; exact ((S.k.setCell (p := ⟨w.heap.size, 0, none⟩) (by simp) _).setCell (p := ⟨w.heap.size + 1, 0, none⟩) (by simp) _).setCell (p := ⟨w.heap.size + 2, 0, none⟩) (by simp) _
    have g0 : Blk Wf w.heap.size 24 #[.slice A (partsL s).length c] := by
      have h := ((b0.set_ 0 (.slice A (partsL s).length c)).far (p := ⟨w.heap.size + 1, 0, none⟩) (by simp) (.int .i64 0)).far (p := ⟨w.heap.size + 2, 0, none⟩) (by simp) (.int .i64 0)
      rw [hWf] at h; simpa using h
    have g1 : Blk Wf (w.heap.size + 1) 3 #[.int .i64 0] := by
      have h := ((b1.far (p := ⟨w.heap.size, 0, none⟩) (by simp) (.slice A (partsL s).length c)).set_ 0 (.int .i64 0)).far (p := ⟨w.heap.size + 2, 0, none⟩) (by simp) (.int .i64 0)
      rw [hWf] at h; simpa using h
    have g2 : Blk Wf (w.heap.size + 2) 29 #[.int .i64 0] := by
      have h := ((b2.far (p := ⟨w.heap.size, 0, none⟩) (by simp) (.slice A (partsL s).length c)).far (p := ⟨w.heap.size + 1, 0, none⟩) (by simp) (.int .i64 0)).set_ 0 (.int .i64 0)
      rw [hWf] at h; simpa using h
    have go : Wf.ownsRow (w.heap.size + 6) 27 5 (.slice A (partsL s).length c) (partsL s).length (linesL ((partsL s).map fun p => parseP p.1)) :=
      own_keepE hown fun g h1 _ => by
        rw [← hWf]
        exact (Below.heap_setCell _ _ _ _ (by simp; omega)).trans ((Below.heap_setCell _ _ _ _ (by simp; omega)).trans (Below.heap_setCell _ _ _ _ (by simp; omega)))
    have hKf : Wf.heap[D]? = some (.deferred (some [])) := by
      rw [← hWf]
      exact (Below.heap_setCell _ _ _ _ (by simp; omega)).trans ((Below.heap_setCell _ _ _ _ (by simp; omega)).trans ((Below.heap_setCell _ _ _ _ (by simp; omega)).trans hK))
    simp only [hWf]
    rw [Exit.noGoto_ret]
    clear hWf c0 c1 c2 f0 f1 f2 hK b0 b1 b2 hown
    refine ⟨by simp, .inl ⟨_, _, rfl, run_takeDeferred hKf, ?_⟩⟩
    have e0 := fun o => (blk_put g0 (o := o) (D := D) (by omega)).cell 0
    have e1 := fun o => (blk_put g1 (o := o) (D := D) (by omega)).cell 0
    have e2 := fun o => (blk_put g2 (o := o) (D := D) (by omega)).cell 0
    simp at e0 e1 e2
    refine ⟨.tuple #[.slice A (partsL s).length c, .int .i64 0, .int .i64 0], by simp [results, Tryd.results25, go_sem, e0, e1, e2], ?_⟩
    have hlm : ((partsL s).map fun p => parseP p.1).length = (partsL s).length := by simp
    refine ⟨kf.putObj (by omega) _, A, c, ?_, ?_⟩
    · rw [HEND.out]; simp only [List.nil_append, hlm]; rfl
    · rw [HEND.out]; simp only [List.nil_append, hlm]
      exact own_put (World.ownsRow.weak go (by omega)) hKf
  case stop =>
    clear b0 b1 b2 b3 k0 S0
    rintro D c pre x r W hxs ⟨rfl, pre', q, v, hpq, hno, hbad, b0, b1, b2, S⟩ hK hD
    refine wpIn_wide.2 ?_
    obtain ⟨n1, hn1⟩ : ∃ n1 : Nat, (pre ++ [x]).length = n1 := ⟨_, rfl⟩
    rw [hn1] at b1
    have HN1 := Lib.hid hn1
    have HPQ := Lib.hid hpq
    have HXS := Lib.hid hxs
    have HNO := Lib.hid hno
    have HBAD := Lib.hid hbad
    clear hn1 hpq hxs hno hbad
    have c0 := b0.cell 0
    have c1 := b1.cell 0
    have c2 := b2.cell 0
    have f0 := b0.frozen 0
    have f1 := b1.frozen 0
    have f2 := b2.frozen 0
    simp at c0 c1 c2
    go_wp2
    have hS0 : W.cell? ⟨w.heap.size + 1, 0, none⟩ = some (.int .i64 (n1 : Nat)) ∧ W.cell? ⟨w.heap.size + 1 + 1, 0, none⟩ = some (.int .i64 5) := ⟨c1, c2⟩
    go_region_held3 (fun w' => w'.cell? ⟨w.heap.size + 1, 0, none⟩ = some (.int .i64 (n1 : Nat)) ∧ w'.cell? ⟨w.heap.size + 1 + 1, 0, none⟩ = some (.int .i64 5)) (first | exact hS0 | exact three0 _ hS0 | exact three1 (three0 _ hS0) | exact three2 (three1 (three0 _ hS0)) | exact three1 hS0 | exact three2 hS0) (fail)
    have hbadE : readT (s.length + 1) s [] 0 = ([], n1, 5) := by
      obtain ⟨rfl, hx⟩ := List.append_inj' HPQ.out rfl
      obtain rfl : x = q := by simpa using hx
      have h := readP_bad pre x r [] 0 HNO.out HBAD.out
      rw [← HXS.out, ← readT_parts (s.length + 1) s [] 0 (by omega)] at h
      rw [h]
      have := HN1.out
      simp at this
      simp
      omega
    have HEND := Lib.hid hbadE
    clear hbadE
    obtain ⟨Wf, hWf⟩ : ∃ Wf, (((W.setCell ⟨w.heap.size, 0, none⟩ (.slice none 0 0)).setCell ⟨w.heap.size + 1, 0, none⟩ (.int .i64 (n1 : Nat))).setCell ⟨w.heap.size + 2, 0, none⟩ (.int .i64 5)).drew = Wf := ⟨_, rfl⟩
    have kf : Below w.heap.size w Wf := by rw [← hWf]; exact (((S.k.setCell (p := ⟨w.heap.size, 0, none⟩) (by simp) _).setCell (p := ⟨w.heap.size + 1, 0, none⟩) (by simp) _).setCell (p := ⟨w.heap.size + 2, 0, none⟩) (by simp) _).drew
    have g0 : Blk Wf w.heap.size 24 #[.slice none 0 0] := by
      have h := (((b0.set_ 0 (.slice none 0 0)).far (p := ⟨w.heap.size + 1, 0, none⟩) (by simp) (.int .i64 (n1 : Nat))).far (p := ⟨w.heap.size + 2, 0, none⟩) (by simp) (.int .i64 5)).drew
      rw [hWf] at h; simpa using h
    have g1 : Blk Wf (w.heap.size + 1) 3 #[.int .i64 (n1 : Nat)] := by
      have h := (((b1.far (p := ⟨w.heap.size, 0, none⟩) (by simp) (.slice none 0 0)).set_ 0 (.int .i64 (n1 : Nat))).far (p := ⟨w.heap.size + 2, 0, none⟩) (by simp) (.int .i64 5)).drew
      rw [hWf] at h; simpa using h
    have g2 : Blk Wf (w.heap.size + 2) 29 #[.int .i64 5] := by
      have h := (((b2.far (p := ⟨w.heap.size, 0, none⟩) (by simp) (.slice none 0 0)).far (p := ⟨w.heap.size + 1, 0, none⟩) (by simp) (.int .i64 (n1 : Nat))).set_ 0 (.int .i64 5)).drew
      rw [hWf] at h; simpa using h
    have hKf : Wf.heap[D]? = some (.deferred (some [])) := by
      rw [← hWf]
      exact (Below.heap_setCell _ _ _ _ (by simp; omega)).trans ((Below.heap_setCell _ _ _ _ (by simp; omega)).trans ((Below.heap_setCell _ _ _ _ (by simp; omega)).trans hK))
    simp only [hWf]
    clear hWf c0 c1 c2 f0 f1 f2 hK b0 b1 b2 hS0 S
    go_wp2
    rw [Exit.noGoto_ret]
    refine ⟨by simp, .inl ⟨_, _, rfl, run_takeDeferred hKf, ?_⟩⟩
    have e0 := fun o => (blk_put g0 (o := o) (D := D) (by omega)).cell 0
    have e1 := fun o => (blk_put g1 (o := o) (D := D) (by omega)).cell 0
    have e2 := fun o => (blk_put g2 (o := o) (D := D) (by omega)).cell 0
    simp at e0 e1 e2
    refine ⟨.tuple #[.slice none 0 0, .int .i64 (n1 : Nat), .int .i64 5], by simp [results, Tryd.results25, go_sem, e0, e1, e2], ?_⟩
    refine ⟨kf.putObj (by omega) _, none, 0, ?_, ?_⟩
    · rw [HEND.out]; rfl
    · rw [HEND.out]
      exact World.ownsRow_nil _ _ _ _
end Go.Proofs.YtljeecocbcffcaaDoor

/- SameInts, Same of the reference; great and own of the laws: walked. -/
namespace Go.Proofs.YtljeecocbcffcaaDoor
open Go.RowKit Go.Maps Go.WideMaps Go.Shelf
set_option linter.unusedSimpArgs false
set_option linter.unusedVariables false

def lineEq (a : ByteArray) (f g : Int) (t u : ByteArray) (a' : ByteArray) (f' g' : Int) (t' u' : ByteArray) : Bool := decide (a = a' ∧ f = f' ∧ g = g' ∧ t = t' ∧ u = u')
theorem str_beq (a b : ByteArray) : (a.toList == b.toList) = decide (a = b) := by
  by_cases h : a = b
  · subst h; simp
  · rw [str_ne h]; simp [h]
theorem line_eqIn (w : World) (n : Nat) (a t u a' t' u' : ByteArray) (f g f' g' : Int) : (Op.equalIn (n + 2) 27 (.agg #[.string a, .int .u8 f, .int .i32 g, .string t, .string u]) (.agg #[.string a', .int .u8 f', .int .i32 g', .string t', .string u'])).run Tryd.prog w = .ok (lineEq a f g t u a' f' g' t' u') w := by
  rw [run_equalIn_struct w (n + 1) 27 _ _ (by kernel_rfl) (by kernel_rfl)]
  have hf : (Tryd.prog.fieldsOf 27).toList = [⟨ "Label", 9, 0, false, "", "", 0⟩, ⟨ "Fn", 5, 1, false, "", "", 16⟩, ⟨ "Arg", 21, 2, false, "", "", 20⟩, ⟨ "Target", 9, 3, false, "", "", 24⟩, ⟨ "From", 9, 4, false, "", "", 40⟩] := by kernel_rfl
  rw [hf]
  have u1 := Tryd.underlying5
  have u2 := Tryd.underlying21
  have u3 := Tryd.underlying9
  have e1 := fun (a b : ByteArray) => run_equalIn_string (P := Tryd.prog) (w := w) n 9 a b u3
  have e2 := fun (a b : Int) => run_equalIn_int (P := Tryd.prog) (w := w) n 5 .u8 .u8 a b u1
  have e3 := fun (a b : Int) => run_equalIn_int (P := Tryd.prog) (w := w) n 21 .i32 .i32 a b u2
  by_cases h1 : a = a'
  · by_cases h2 : f = f'
    · by_cases h3 : g = g'
      · by_cases h4 : t = t'
        · by_cases h5 : u = u' <;> simp [Op.eqFields, part, e1, e2, e3, str_beq, lineEq, h1, h2, h3, h4, h5]
        · simp [Op.eqFields, part, e1, e2, e3, str_beq, lineEq, h1, h2, h3, h4]
      · simp [Op.eqFields, part, e1, e2, e3, str_beq, lineEq, h1, h2, h3]
    · simp [Op.eqFields, part, e1, e2, e3, str_beq, lineEq, h1, h2]
  · simp [Op.eqFields, part, e1, e2, e3, str_beq, lineEq, h1]
@[go_sem ↓] theorem line_neq (w : World) (a t u a' t' u' : ByteArray) (f g f' g' : Int) : (binOp .neq 27 (.agg #[.string a, .int .u8 f, .int .i32 g, .string t, .string u]) (.agg #[.string a', .int .u8 f', .int .i32 g', .string t', .string u'])).run Tryd.prog w = .ok (.bool (!lineEq a f g t u a' f' g' t' u')) w := by
  simp only [binOp]
  simp [Op.equal, Op.maxDepth, line_eqIn w 9998]
@[go_sem ↓] theorem line_guard (w : World) (op : BinOp) (x y : Operand) (xs ys : Array Value) : (eqGuard op 27 x y (.agg xs) (.agg ys)).run Tryd.prog w = .ok () w :=
  run_eqGuard_agg w op 27 x y xs ys (by kernel_rfl)
theorem strB_inj {a b : List UInt8} (h : strB a = strB b) : a = b := by
  have : (strB a).data.toList = (strB b).data.toList := by rw [h]
  simpa [strB] using this
theorem lineEq_eq (x y : LineL) : lineEq (strB x.label) x.fn x.arg (strB x.target) (strB x.frm) (strB y.label) y.fn y.arg (strB y.target) (strB y.frm) = decide (x = y) := by
  unfold lineEq
  rw [decide_eq_decide]
  constructor
  · rintro ⟨h1, h2, h3, h4, h5⟩
    rcases x with ⟨a, b, c, d, e⟩
    rcases y with ⟨a', b', c', d', e'⟩
    simp only at h1 h2 h3 h4 h5
    rw [strB_inj h1, h3, strB_inj h4, strB_inj h5, show b = b' by omega]
  · rintro rfl; exact ⟨rfl, rfl, rfl, rfl, rfl⟩
theorem sameL_no {α : Type} [DecidableEq α] {xs ys : List α} {k : Nat} {x y : α} (hx : xs[k]? = some x) (hy : ys[k]? = some y) (h : x ≠ y) : decide (xs = ys) = false := by
  simp only [decide_eq_false_iff_not]
  rintro rfl
  rw [hx] at hy; injection hy with hy; exact h hy
theorem sameL_len {α : Type} [DecidableEq α] {xs ys : List α} (h : xs.length ≠ ys.length) : decide (xs = ys) = false := by
  simp only [decide_eq_false_iff_not]; rintro rfl; exact h rfl
theorem nums_at {w : World} {B n : Nat} {A : Option Addr} {l : List Nat} (h : Reads w B 1 A n (ncells l)) {k : Nat} (hk : k < n) :
    ∃ b off x, A = some ⟨b, off, none⟩ ∧ b < B ∧ l[k]? = some x ∧ w.cell? ⟨b, off + k, none⟩ = some (.int .i64 (x : Int)) := by
  have hl := h.1
  rw [ncells_len] at hl
  have hg : l[k]? = some l[k] := List.getElem?_eq_getElem (by omega)
  obtain ⟨b, off, e, hb, -, hc⟩ := num_at h hg
  exact ⟨b, off, _, e, hb, hg, hc⟩

set_option maxRecDepth 100000 in
set_option maxHeartbeats 1000000 in
theorem sInts (A B : Option Addr) (n c m d : Nat) (xs ys : List Nat) (w : World) (hx : Reads w w.heap.size 1 A n (ncells xs)) (hy : Reads w w.heap.size 1 B m (ncells ys)) (hn : n ≤ 1000000) :
    Calls Tryd.prog 49 #[.slice A n c, .slice B m d] w (RetV (.bool (decide (xs = ys))) w) := by
  have hxl : xs.length = n := by have := hx.1; rw [ncells_len] at this; omega
  have hyl : ys.length = m := by have := hy.1; rw [ncells_len] at this; omega
  by_cases hnm : n = m
  · subst hnm
    have Hx := Lib.hid hxl; clear hxl
    have Hy := Lib.hid hyl; clear hyl
    go_enter Tryd.func49, Tryd.ntmps49
    go_wp2
    go_loopw [5] (fun i wr => ∃ k : Nat, i = .int .i64 k ∧ k ≤ n ∧ Hid (xs.take k = ys.take k) ∧ ∃ q, wr = w.drewN q) (fun i _ => n - (intOf i).toNat)
    case atStart => exact ⟨0, rfl, by omega, rfl, 0, rfl⟩
    case round =>
      obtain ⟨k, rfl, hk, ht, q, rfl⟩ := hrel
      by_cases hlt : k < n
      · have hki : (k : Int) < (n : Int) := by omega
        obtain ⟨b1, o1, x, rfl, hb1, ex, c1⟩ := nums_at hx hlt
        obtain ⟨b2, o2, y, rfl, hb2, ey, d1⟩ := nums_at hy hlt
        have Ex := Lib.hid ex; clear ex
        have Ey := Lib.hid ey; clear ey
        clear hx hy
        by_cases hxy : x = y
        · subst hxy
          go_wp2
          go_quiet (fail)
          go_wp2
          go_roundw
          case rel =>
            refine ⟨k + 1, by go_num, by omega, ?_, _, rfl⟩
            show _ = _
            obtain ⟨h1, h1'⟩ := List.getElem?_eq_some_iff.1 Ex.out
            obtain ⟨h2, h2'⟩ := List.getElem?_eq_some_iff.1 Ey.out
            rw [List.take_succ_eq_append_getElem h1, List.take_succ_eq_append_getElem h2, ht.out, h1', h2']
          case measure => simp [intOf]; omega
        · have hne : ((x : Int) != (y : Int)) = true := by simp; omega
          have Hne := Lib.hid hxy; clear hxy
          go_wp2
          go_quiet (fail)
          go_wp2
          go_ret
          rw [sameL_no Ex.out Ey.out Hne.out]
          exact ⟨rfl, ((Below.refl _ _).drewN' _).drewN' _⟩
      · obtain rfl : n = k := by omega
        go_wp2
        go_ret
        have h := ht.out
        rw [List.take_of_length_le (by rw [Hx.out]; omega), List.take_of_length_le (by rw [Hy.out]; omega)] at h
        refine ⟨?_, (Below.refl _ _).drewN' _⟩
        simp [h]
  · have hne2 : ((n : Int) != (m : Int)) = true := by simp; omega
    have hno : decide (xs = ys) = false := sameL_len (by omega)
    have HNO := Lib.hid hno
    rw [hno]
    clear hno
    go_enter Tryd.func49, Tryd.ntmps49
    go_wp2
    go_ret
    exact ⟨rfl, Below.refl _ _⟩

set_option maxRecDepth 100000 in
set_option maxHeartbeats 1000000 in
theorem sLines (A B : Option Addr) (n c m d : Nat) (xs ys : List LineL) (w : World) (hx : Reads w w.heap.size 5 A n (linesL xs)) (hy : Reads w w.heap.size 5 B m (linesL ys)) (hn : n ≤ 1000000) :
    Calls Tryd.prog 27 #[.slice A n c, .slice B m d] w (RetV (.bool (decide (xs = ys))) w) := by
  have hxl : xs.length = n := by exact lines_len hx
  have hyl : ys.length = m := by exact lines_len hy
  by_cases hnm : n = m
  · subst hnm
    have Hx := Lib.hid hxl; clear hxl
    have Hy := Lib.hid hyl; clear hyl
    go_enter Tryd.func27, Tryd.ntmps27
    go_wp2
    go_loopw [5] (fun i wr => ∃ k : Nat, i = .int .i64 k ∧ k ≤ n ∧ Hid (xs.take k = ys.take k) ∧ ∃ q, wr = w.drewN q) (fun i _ => n - (intOf i).toNat)
    case atStart => exact ⟨0, rfl, by omega, rfl, 0, rfl⟩
    case round =>
      obtain ⟨k, rfl, hk, ht, q, rfl⟩ := hrel
      by_cases hlt : k < n
      · have hki : (k : Int) < (n : Int) := by omega
        obtain ⟨b1, o1, x, rfl, hb1, ex, c0, c1, c2, c3, c4⟩ := lines_at hx hlt
        obtain ⟨b2, o2, y, rfl, hb2, ey, d0, d1, d2, d3, d4⟩ := lines_at hy hlt
        have Ex := Lib.hid ex; clear ex
        have Ey := Lib.hid ey; clear ey
        clear hx hy
        by_cases hxy : x = y
        · subst hxy
          have hl := lineEq_eq x x
          rw [decide_eq_true rfl] at hl
          generalize strB x.label = SL at *
          generalize strB x.target = ST at *
          generalize strB x.frm = SF at *
          go_wp2
          go_quiet (fail)
          go_wp2
          go_roundw
          case rel =>
            refine ⟨k + 1, by go_num, by omega, ?_, _, rfl⟩
            show _ = _
            obtain ⟨h1, h1'⟩ := List.getElem?_eq_some_iff.1 Ex.out
            obtain ⟨h2, h2'⟩ := List.getElem?_eq_some_iff.1 Ey.out
            rw [List.take_succ_eq_append_getElem h1, List.take_succ_eq_append_getElem h2, ht.out, h1', h2']
          case measure => simp [intOf]; omega
        · have hl := lineEq_eq x y
          rw [decide_eq_false hxy] at hl
          generalize strB x.label = SL at *
          generalize strB x.target = ST at *
          generalize strB x.frm = SF at *
          generalize strB y.label = SL' at *
          generalize strB y.target = ST' at *
          generalize strB y.frm = SF' at *
          have Hne := Lib.hid hxy; clear hxy
          go_wp2
          go_quiet (fail)
          go_wp2
          go_ret
          rw [sameL_no Ex.out Ey.out Hne.out]
          exact ⟨rfl, ((Below.refl _ _).drewN' _).drewN' _⟩
      · obtain rfl : n = k := by omega
        go_wp2
        go_ret
        have h := ht.out
        rw [List.take_of_length_le (by rw [Hx.out]; omega), List.take_of_length_le (by rw [Hy.out]; omega)] at h
        refine ⟨?_, (Below.refl _ _).drewN' _⟩
        simp [h]
  · have hne2 : ((n : Int) != (m : Int)) = true := by simp; omega
    have hno : decide (xs = ys) = false := sameL_len (by omega)
    have HNO := Lib.hid hno
    rw [hno]
    clear hno
    go_enter Tryd.func27, Tryd.ntmps27
    go_wp2
    go_ret
    exact ⟨rfl, Below.refl _ _⟩
theorem linesL_one (ls : List LineL) : ∀ u ∈ linesL ls, u.oneCell' = true := by
  intro u hu
  rw [linesL, List.mem_flatMap] at hu
  obtain ⟨x, -, hu⟩ := hu
  simp [lineC] at hu
  rcases hu with rfl | rfl | rfl | rfl | rfl <;> rfl
end Go.Proofs.YtljeecocbcffcaaDoor

/- Label of the reference, walked. -/
namespace Go.Proofs.YtljeecocbcffcaaDoor
open Go.RowKit Go.Maps Go.WideMaps Go.Shelf
set_option linter.unusedSimpArgs false
set_option linter.unusedVariables false

theorem letter_cases (c : UInt8) : let n := (c.toNat : Int)
    (97 ≤ n ∧ n ≤ 122 ∧ letterB c = true) ∨ (97 ≤ n ∧ ¬ n ≤ 122 ∧ 65 ≤ n ∧ ¬ n ≤ 90 ∧ letterB c = false) ∨ (¬ 97 ≤ n ∧ 65 ≤ n ∧ n ≤ 90 ∧ letterB c = true) ∨
    (¬ 97 ≤ n ∧ 65 ≤ n ∧ ¬ n ≤ 90 ∧ letterB c = false) ∨ (¬ 97 ≤ n ∧ ¬ 65 ≤ n ∧ letterB c = false) := by
  have h : ∀ n : Nat, n < 256 → ((97 ≤ (n : Int) ∧ (n : Int) ≤ 122 ∧ letterB (UInt8.ofNat n) = true) ∨ (97 ≤ (n : Int) ∧ ¬ (n : Int) ≤ 122 ∧ 65 ≤ (n : Int) ∧ ¬ (n : Int) ≤ 90 ∧ letterB (UInt8.ofNat n) = false) ∨ (¬ 97 ≤ (n : Int) ∧ 65 ≤ (n : Int) ∧ (n : Int) ≤ 90 ∧ letterB (UInt8.ofNat n) = true) ∨
    (¬ 97 ≤ (n : Int) ∧ 65 ≤ (n : Int) ∧ ¬ (n : Int) ≤ 90 ∧ letterB (UInt8.ofNat n) = false) ∨ (¬ 97 ≤ (n : Int) ∧ ¬ 65 ≤ (n : Int) ∧ letterB (UInt8.ofNat n) = false)) := by decide +kernel
  have := h c.toNat c.toNat_lt_size
  rwa [UInt8.ofNat_toNat] at this
theorem other_cases (c : UInt8) : let n := (c.toNat : Int)
    (48 ≤ n ∧ n ≤ 57 ∧ otherB c = true) ∨ (48 ≤ n ∧ ¬ n ≤ 57 ∧ (n == 46) = false ∧ otherB c = false) ∨ (¬ 48 ≤ n ∧ (n == 46) = true ∧ otherB c = true) ∨ (¬ 48 ≤ n ∧ (n == 46) = false ∧ otherB c = false) := by
  have h : ∀ n : Nat, n < 256 → ((48 ≤ (n : Int) ∧ (n : Int) ≤ 57 ∧ otherB (UInt8.ofNat n) = true) ∨ (48 ≤ (n : Int) ∧ ¬ (n : Int) ≤ 57 ∧ ((n : Int) == 46) = false ∧ otherB (UInt8.ofNat n) = false) ∨ (¬ 48 ≤ (n : Int) ∧ ((n : Int) == 46) = true ∧ otherB (UInt8.ofNat n) = true) ∨
    (¬ 48 ≤ (n : Int) ∧ ((n : Int) == 46) = false ∧ otherB (UInt8.ofNat n) = false)) := by decide +kernel
  have := h c.toNat c.toNat_lt_size
  rwa [UInt8.ofNat_toNat] at this
theorem bytes_at {S : ByteArray} {k : Nat} (h : k < S.size) : ∃ d, S.data.toList[k]? = some d ∧ S[k] = d := by
  have hl : k < S.data.toList.length := by rw [str_size]; exact h
  refine ⟨S.data.toList[k], List.getElem?_eq_getElem hl, ?_⟩
  simp [ByteArray.getElem_eq_getElem_data]
set_option maxRecDepth 100000 in
set_option maxHeartbeats 4000000 in
theorem rLabel (S : ByteArray) (hs : S.size ≤ 281474976710656) (w : World) : Calls Tryd.prog 75 #[.string S] w (RetV (.bool (labelB S.data.toList)) w) := by
  have HS := Lib.hid hs
  go_enter Tryd.func75, Tryd.ntmps75
  go_wp2
  go_loop [3] (fun p => ∃ i : Nat, i ≤ S.size ∧ p = .int .i64 (i : Int) ∧ Hid (∀ j c, j < i → S.data.toList[j]? = some c → fitB j c = true)) (fun p => S.size - (intOf p).toNat)
  case atStart => exact ⟨0, by omega, rfl, Lib.hid (by intro j c h; omega)⟩
  case round =>
    obtain ⟨i, hi, rfl, Hi⟩ := hrel
    by_cases hlt : i < S.size
    · have hltI : (i : Int) < S.size := by omega
      have hi0 : (0 : Int) ≤ i := by omega
      obtain ⟨c, hcg, hget⟩ := bytes_at hlt
      have HG := Lib.hid hcg
      have w1 : IntKind.i64.wrap ((i : Int) + 1) = (i : Int) + 1 := IntWalk.i64_in _ (by have := HS.out; omega)
      clear hcg hs
      have on : fitB i c = true → ∀ j d, j < i + 1 → S.data.toList[j]? = some d → fitB j d = true := by
        intro hf j d hj hd
        by_cases h : j = i
        · subst h; rw [HG.out] at hd; injection hd with hd; subst hd; exact hf
        · exact Hi.out j d (by omega) hd
      have no : fitB i c = false → labelB S.data.toList = false := fun hf => label_no HG.out hf
      have ON := Lib.hid on
      have NO := Lib.hid no
      clear on no
      have hl := letter_cases c
      have ho := other_cases c
      simp only at hl ho
      have hiz : ((i : Int) == 0) = true ∨ ((i : Int) == 0) = false := by cases ((i : Int) == 0) <;> simp
      have hizn : ((i : Int) == 0) = (i == 0) := by rw [Bool.eq_iff_iff]; simp
      have HZ := Lib.hid hizn
      clear hizn
      have hfit : fitB i c = (letterB c || (!(i == 0) && otherB c)) := rfl
      generalize letterB c = lb at *
      generalize otherB c = ob at *
      have HF := Lib.hid hfit
      clear hfit
      obtain ⟨m, hm⟩ : ∃ m, (c.toNat : Int) = m := ⟨_, rfl⟩
      rw [hm] at hl ho
      generalize fitB i c = ft at *
      go_upto_region 4 with (fail)
      go_cut [4] (fun s4 wx => s4 = .bool lb ∧ wx = w)
      case first =>
        rcases hl with ⟨h1, h2, h3⟩ | ⟨h1, h2, h4, h5, h3⟩ | ⟨h1, h2, h4, h3⟩ | ⟨h1, h2, h4, h3⟩ | ⟨h1, h2, h3⟩
        all_goals
          go_wp2
          go_meet
          exact ⟨by rw [h3], rfl⟩
      case rest =>
        obtain ⟨rfl, rfl⟩ := hcut
        go_upto_region 5 with (fail)
        go_cut [5] (fun s5 wx => s5 = .bool ob ∧ wx = wc)
        case first =>
          rcases ho with ⟨o1, o2, o3⟩ | ⟨o1, o2, o4, o3⟩ | ⟨o1, o2, o3⟩ | ⟨o1, o2, o3⟩
          all_goals
            go_wp2
            go_meet
            exact ⟨by rw [o3], rfl⟩
        case rest =>
          obtain ⟨rfl, rfl⟩ := hcut
          clear hl ho
          cases lb
          · rcases hiz with hz | hz
            · have hno := Lib.hid (NO.out (by rw [HF.out, ← HZ.out, hz]; rfl))
              clear NO ON HF HZ
              go_wp2
              go_ret
              exact ⟨by rw [hno.out]; rfl, Below.refl _ _⟩
            · cases ob
              · have hno := Lib.hid (NO.out (by rw [HF.out, ← HZ.out, hz]; rfl))
                clear NO ON HF HZ
                go_wp2
                go_ret
                exact ⟨by rw [hno.out]; rfl, Below.refl _ _⟩
              · have hon := Lib.hid (ON.out (by rw [HF.out, ← HZ.out, hz]; rfl))
                clear NO ON HF HZ
                go_wp2
                go_round
                case rel => exact ⟨i + 1, by omega, by go_num, hon⟩
                case measure => simp [intOf]; omega
          · have hon := Lib.hid (ON.out (by rw [HF.out]; rfl))
            clear NO ON HF HZ
            go_wp2
            go_round
            case rel => exact ⟨i + 1, by omega, by go_num, hon⟩
            case measure => simp [intOf]; omega
    · have hltI : ¬ (i : Int) < S.size := by omega
      obtain rfl : i = S.size := by omega
      have hend := label_end (S := S) Hi.out
      have HE := Lib.hid hend
      clear hend Hi
      by_cases h0 : 1 ≤ (S.size : Int)
      · have hlab : labelB S.data.toList = decide ((S.size : Int) ≤ 32) := by
          rw [HE.out]
          have h1 : (S.size == 0) = false := by rw [beq_eq_false_iff_ne]; omega
          have h2 : decide ((S.size : Int) ≤ 32) = decide (S.size ≤ 32) := by rw [decide_eq_decide]; omega
          rw [h1, h2]; rfl
        have HL := Lib.hid hlab
        clear hlab HE
        go_wp2
        go_ret
        exact ⟨by rw [HL.out]; rfl, Below.refl _ _⟩
      · have hlab : labelB S.data.toList = false := by
          rw [HE.out]
          have h1 : (S.size == 0) = true := by rw [beq_iff_eq]; omega
          rw [h1]; rfl
        have HL := Lib.hid hlab
        clear hlab HE
        go_wp2
        go_ret
        exact ⟨by rw [HL.out]; rfl, Below.refl _ _⟩
theorem rLab (l : List UInt8) (h : l.length ≤ 281474976710656) (w : World) : Calls Tryd.prog 75 #[.string (strB l)] w (RetV (.bool (labelB l)) w) := by
  have := rLabel (strB l) (by rw [strB_size]; exact h) w
  rwa [show (strB l).data.toList = l by simp [strB]] at this
end Go.Proofs.YtljeecocbcffcaaDoor

/- Valid of the reference, walked. -/
namespace Go.Proofs.YtljeecocbcffcaaDoor
open Go.RowKit Go.Maps Go.WideMaps Go.Shelf
set_option linter.unusedSimpArgs false
set_option linter.unusedVariables false

theorem rName05 (fn arg : Int) (hf : 0 ≤ fn ∧ fn ≤ 255) (B : Nat) (w : World) (_ : Laid5 B w) (_ : B ≤ w.heap.size) : Calls Tryd.prog 77 #[.agg #[.int .u8 fn, .int .i32 arg]] w (RetV (nameP (findI fn arg)) w) := by
  have hB0 : Below w.heap.size w (w.alloc (.cells #[.int .u8 fn, .int .i32 arg] 59)) := (Below.refl _ _).alloc (Nat.le_refl _) _
  have HFi := Lib.hid (fun w => rFind fn arg hf w)
  unfold rowR rowA at HFi
  unfold nameP
  generalize (findI fn arg).isSome = ok at *
  generalize (findI fn arg).getD irow0 = r at *
  generalize strB r.name = NM at *
  go_enter Tryd.func77, Tryd.ntmps77
  go_wp2_with (go_at_call 91; refine (HFi.out _).mono ?_; rintro e w1 ⟨rfl, hb1⟩)
  go_ret2
  exact ⟨rfl, (hB0.trans (hb1.mono (by simp <;> omega))).alloc (by have := hb1.size; simp at this; omega) _⟩
theorem rMay05 (fn arg : Int) (hf : 0 ≤ fn ∧ fn ≤ 255) (B : Nat) (w : World) (_ : Laid5 B w) (_ : B ≤ w.heap.size) : Calls Tryd.prog 76 #[.agg #[.int .u8 fn, .int .i32 arg]] w (RetV (.bool (findI fn arg).isSome) w) := by
  have hB0 : Below w.heap.size w (w.alloc (.cells #[.int .u8 fn, .int .i32 arg] 59)) := (Below.refl _ _).alloc (Nat.le_refl _) _
  have HFi := Lib.hid (fun w => rFind fn arg hf w)
  unfold rowR rowA at HFi
  generalize (findI fn arg).isSome = ok at *
  generalize (findI fn arg).getD irow0 = r at *
  generalize strB r.name = NM at *
  go_enter Tryd.func76, Tryd.ntmps76
  go_wp2_with (go_at_call 91; refine (HFi.out _).mono ?_; rintro e w1 ⟨rfl, hb1⟩)
  go_ret
  exact ⟨rfl, (hB0.trans (hb1.mono (by simp <;> omega))).alloc (by have := hb1.size; simp at this; omega) _⟩
set_option maxRecDepth 100000 in
set_option maxHeartbeats 4000000 in
theorem rValid (x : LineL) (hx : LOk x) (B : Nat) (w : World) (hL : Laid5 B w) (hB : B ≤ w.heap.size) : Calls Tryd.prog 57 #[.agg (lineC x)] w (RetV (.bool (validB x)) w) := by
  have S := S5.start hL hB
  have HL := Lib.hid (rLab x.label hx.label)
  have HT := Lib.hid (rLab x.target hx.target)
  have HF := Lib.hid (rLab x.frm hx.frm)
  have HM := Lib.hid (fun w h h2 => rMay05 (x.fn : Int) x.arg ⟨by omega, by have := hx.fn; omega⟩ B w h h2)
  have el := strB_empty x.label
  have et := strB_empty x.target
  have ef := strB_empty x.frm
  have hv : validB x = ((x.label.isEmpty || labelB x.label) && (if x.target.isEmpty = true then x.frm.isEmpty && (findI (x.fn : Int) x.arg).isSome
     else labelB x.target && (x.frm.isEmpty || labelB x.frm) && x.arg == 0 && decide (x.fn < 15) && !(x.fn == 2) && !(x.fn == 6))) := rfl
  have HV := Lib.hid hv
  clear hv
  clear hL hB hx
  unfold lineC
  generalize hlab : strB x.label = SL at *
  generalize htar : strB x.target = ST at *
  generalize hfrm : strB x.frm = SF at *
  generalize labelB x.label = bl at *
  generalize labelB x.target = bt at *
  generalize labelB x.frm = bf at *
  generalize (findI (x.fn : Int) x.arg).isSome = bm at *
  generalize x.label.isEmpty = zl at *
  generalize x.target.isEmpty = zt at *
  generalize x.frm.isEmpty = zf at *
  generalize hr : validB x = res at *
  clear hlab htar hfrm hr
  generalize x.fn = fn at *
  generalize x.arg = arg at *
  go_enter Tryd.func57, Tryd.ntmps57
  go_upto_region 1 with (fail)
  have S0 := S.alloc (.cells #[.string SL, .int .u8 fn, .int .i32 arg, .string ST, .string SF] 27)
  have b0 := Blk.new w 27 #[.string SL, .int .u8 fn, .int .i32 arg, .string ST, .string SF]
  obtain ⟨W0, hW0⟩ : ∃ W0, w.alloc (.cells #[.string SL, .int .u8 fn, .int .i32 arg, .string ST, .string SF] 27) = W0 := ⟨_, rfl⟩
  rw [hW0] at S0 b0 ⊢
  clear hW0
  go_cut [11] (fun s11 wx => s11 = .bool (!(zl || bl)) ∧ S5 B w wx ∧ Blk wx w.heap.size 27 #[.string SL, .int .u8 fn, .int .i32 arg, .string ST, .string SF])
  case first =>
    have c00 := b0.cell 0
    have c01 := b0.cell 1
    have c02 := b0.cell 2
    have c03 := b0.cell 3
    have c04 := b0.cell 4
    simp at c00 c01 c02 c03 c04
    cases zl
    · go_wp2_with (go_at_call 75; refine (HL.out _).mono ?_; rintro e w1 ⟨rfl, hb1⟩)
      go_meet
      exact ⟨rfl, S0.call hb1, b0.call hb1⟩
    · go_wp2
      go_meet
      exact ⟨rfl, S0, b0⟩
  case rest =>
    obtain ⟨rfl, S1, b1⟩ := hcut
    clear HL b0 S0 el S
    have c10 := b1.cell 0
    have c11 := b1.cell 1
    have c12 := b1.cell 2
    have c13 := b1.cell 3
    have c14 := b1.cell 4
    simp at c10 c11 c12 c13 c14
    generalize hg : (zl || bl) = g at *
    cases g
    · go_wp2
      refine bodyPost_ret (v := .bool false) (by simp [results, Tryd.results57, go_sem]) rfl ⟨by rw [HV.out]; simp, S1.k⟩
    have HM1 := Lib.hid (HM.out _ S1.l S1.b)
    clear HM
    cases zt
    · cases bt
      · go_wp2_with (go_at_call 75; refine (HT.out _).mono ?_; rintro e w1 ⟨rfl, hb1⟩)
        refine bodyPost_ret (v := .bool false) (by simp [results, Tryd.results57, go_sem]) rfl ⟨by rw [HV.out]; simp, (S1.call hb1).k⟩
      have call2 : ∀ (b1 : Bool), zf = false → True := fun _ _ => trivial
      clear call2
      have fin : ∀ (res' : Bool) (W : World), S5 B w W → res = res' → RetV (.bool res) w (.returned (.bool res')) W := fun r' W h e => ⟨by rw [e], h.k⟩
      have FIN := Lib.hid fin
      clear fin
      have hfn : (fn : Int) < 15 ∨ ¬ (fn : Int) < 15 := Classical.em _
      have HJ : ((zf || bf) = false ∧ res = false) ∨ ((zf || bf) = true ∧ ((¬ arg = 0 ∧ res = false) ∨ (arg = 0 ∧ ((¬ (fn : Int) < 15 ∧ res = false) ∨ ((fn : Int) < 15 ∧ (((fn : Int) = 2 ∧ res = false) ∨ (((fn : Int) != 2) = true ∧ res = !((fn : Int) == 6)))))))) := by
        have h := HV.out
        simp only [Bool.true_and, Bool.false_eq_true, if_false] at h
        have h6 : ((fn : Int) == 6) = (fn == 6) := by rw [Bool.eq_iff_iff]; simp; omega
        rw [h6]
        cases hz : (zf || bf)
        · exact .inl ⟨rfl, by rw [h, hz]; simp⟩
        · refine .inr ⟨rfl, ?_⟩
          rw [hz] at h
          by_cases ha : arg = 0
          · refine .inr ⟨ha, ?_⟩
            by_cases hf : (fn : Int) < 15
            · refine .inr ⟨hf, ?_⟩
              have hf' : fn < 15 := by omega
              by_cases h2 : fn = 2
              · exact .inl ⟨by omega, by rw [h]; simp [h2]⟩
              · exact .inr ⟨by simp; omega, by rw [h]; simp [ha, hf', h2]⟩
            · exact .inl ⟨hf, by rw [h]; have : ¬ fn < 15 := by omega
                                 simp [this]⟩
          · exact .inl ⟨ha, by rw [h]; simp [ha]⟩
      clear hfn HV HM1
      have HJ' := Lib.hid HJ
      clear HJ
      cases zf <;> cases bf
      · obtain ⟨-, hr⟩ : _ ∧ res = false := by rcases HJ'.out with h | ⟨h, _⟩; exact h; exact absurd h (by simp)
        clear HJ'
        have HR := Lib.hid hr
        clear hr
        go_wp2_with (first
          | (go_at_call 75; (with_reducible refine (HT.out wc).mono ?_); rintro e w1 ⟨rfl, hb1⟩
             have S2 := S1.call hb1
             have b2 := b1.call hb1
             have d10 := b2.cell 0
             have d11 := b2.cell 1
             have d12 := b2.cell 2
             have d13 := b2.cell 3
             have d14 := b2.cell 4
             simp at d10 d11 d12 d13 d14
             )
          | (go_at_call 75; (with_reducible refine (HF.out w1).mono ?_); rintro e w2 ⟨rfl, hb2⟩
             have S3 := S2.call hb2
             have b3 := b2.call hb2
             have e10 := b3.cell 0
             have e11 := b3.cell 1
             have e12 := b3.cell 2
             have e13 := b3.cell 3
             have e14 := b3.cell 4
             simp at e10 e11 e12 e13 e14
             ))
        refine bodyPost_ret (v := .bool false) (by simp [results, Tryd.results57, go_sem]) rfl (FIN.out _ _ S3 HR.out)
      · obtain h | ⟨-, h⟩ := HJ'.out
        · exact absurd h.1 (by simp)
        clear HJ'
        rcases h with ⟨h0, hr⟩ | ⟨h0, ⟨h15, hr⟩ | ⟨h15, ⟨h2, hr⟩ | ⟨h2, hr⟩⟩⟩
        · have h0 : (arg == 0) = false := by simpa using h0
          have HR := Lib.hid hr
          clear hr
          go_wp2_with (first
            | (go_at_call 75; (with_reducible refine (HT.out wc).mono ?_); rintro e w1 ⟨rfl, hb1⟩
               have S2 := S1.call hb1
               have b2 := b1.call hb1
               have d10 := b2.cell 0
               have d11 := b2.cell 1
               have d12 := b2.cell 2
               have d13 := b2.cell 3
               have d14 := b2.cell 4
               simp at d10 d11 d12 d13 d14
               )
            | (go_at_call 75; (with_reducible refine (HF.out w1).mono ?_); rintro e w2 ⟨rfl, hb2⟩
               have S3 := S2.call hb2
               have b3 := b2.call hb2
               have e10 := b3.cell 0
               have e11 := b3.cell 1
               have e12 := b3.cell 2
               have e13 := b3.cell 3
               have e14 := b3.cell 4
               simp at e10 e11 e12 e13 e14
               ))
          refine bodyPost_ret (v := .bool false) (by simp [results, Tryd.results57, go_sem]) rfl (FIN.out _ _ S3 HR.out)
        · subst h0
          have HR := Lib.hid hr
          clear hr
          go_wp2_with (first
            | (go_at_call 75; (with_reducible refine (HT.out wc).mono ?_); rintro e w1 ⟨rfl, hb1⟩
               have S2 := S1.call hb1
               have b2 := b1.call hb1
               have d10 := b2.cell 0
               have d11 := b2.cell 1
               have d12 := b2.cell 2
               have d13 := b2.cell 3
               have d14 := b2.cell 4
               simp at d10 d11 d12 d13 d14
               )
            | (go_at_call 75; (with_reducible refine (HF.out w1).mono ?_); rintro e w2 ⟨rfl, hb2⟩
               have S3 := S2.call hb2
               have b3 := b2.call hb2
               have e10 := b3.cell 0
               have e11 := b3.cell 1
               have e12 := b3.cell 2
               have e13 := b3.cell 3
               have e14 := b3.cell 4
               simp at e10 e11 e12 e13 e14
               ))
          refine bodyPost_ret (v := .bool false) (by simp [results, Tryd.results57, go_sem]) rfl (FIN.out _ _ S3 HR.out)
        · subst h0
          have h2 : ((fn : Int) != 2) = false := by rw [h2]; rfl
          have HR := Lib.hid hr
          clear hr
          go_wp2_with (first
            | (go_at_call 75; (with_reducible refine (HT.out wc).mono ?_); rintro e w1 ⟨rfl, hb1⟩
               have S2 := S1.call hb1
               have b2 := b1.call hb1
               have d10 := b2.cell 0
               have d11 := b2.cell 1
               have d12 := b2.cell 2
               have d13 := b2.cell 3
               have d14 := b2.cell 4
               simp at d10 d11 d12 d13 d14
               )
            | (go_at_call 75; (with_reducible refine (HF.out w1).mono ?_); rintro e w2 ⟨rfl, hb2⟩
               have S3 := S2.call hb2
               have b3 := b2.call hb2
               have e10 := b3.cell 0
               have e11 := b3.cell 1
               have e12 := b3.cell 2
               have e13 := b3.cell 3
               have e14 := b3.cell 4
               simp at e10 e11 e12 e13 e14
               ))
          refine bodyPost_ret (v := .bool false) (by simp [results, Tryd.results57, go_sem]) rfl (FIN.out _ _ S3 HR.out)
        · subst h0
          have HR := Lib.hid hr
          clear hr
          go_wp2_with (first
            | (go_at_call 75; (with_reducible refine (HT.out wc).mono ?_); rintro e w1 ⟨rfl, hb1⟩
               have S2 := S1.call hb1
               have b2 := b1.call hb1
               have d10 := b2.cell 0
               have d11 := b2.cell 1
               have d12 := b2.cell 2
               have d13 := b2.cell 3
               have d14 := b2.cell 4
               simp at d10 d11 d12 d13 d14
               )
            | (go_at_call 75; (with_reducible refine (HF.out w1).mono ?_); rintro e w2 ⟨rfl, hb2⟩
               have S3 := S2.call hb2
               have b3 := b2.call hb2
               have e10 := b3.cell 0
               have e11 := b3.cell 1
               have e12 := b3.cell 2
               have e13 := b3.cell 3
               have e14 := b3.cell 4
               simp at e10 e11 e12 e13 e14
               ))
          refine bodyPost_ret (v := .bool (((fn : Int) != 6))) (by simp [results, Tryd.results57, go_sem]) rfl (FIN.out _ _ S3 HR.out)
      · obtain h | ⟨-, h⟩ := HJ'.out
        · exact absurd h.1 (by simp)
        clear HJ'
        rcases h with ⟨h0, hr⟩ | ⟨h0, ⟨h15, hr⟩ | ⟨h15, ⟨h2, hr⟩ | ⟨h2, hr⟩⟩⟩
        · have h0 : (arg == 0) = false := by simpa using h0
          have HR := Lib.hid hr
          clear hr
          go_wp2_with (first
            | (go_at_call 75; (with_reducible refine (HT.out wc).mono ?_); rintro e w1 ⟨rfl, hb1⟩
               have S2 := S1.call hb1
               have b2 := b1.call hb1
               have d10 := b2.cell 0
               have d11 := b2.cell 1
               have d12 := b2.cell 2
               have d13 := b2.cell 3
               have d14 := b2.cell 4
               simp at d10 d11 d12 d13 d14
               ))
          refine bodyPost_ret (v := .bool false) (by simp [results, Tryd.results57, go_sem]) rfl (FIN.out _ _ S2 HR.out)
        · subst h0
          have HR := Lib.hid hr
          clear hr
          go_wp2_with (first
            | (go_at_call 75; (with_reducible refine (HT.out wc).mono ?_); rintro e w1 ⟨rfl, hb1⟩
               have S2 := S1.call hb1
               have b2 := b1.call hb1
               have d10 := b2.cell 0
               have d11 := b2.cell 1
               have d12 := b2.cell 2
               have d13 := b2.cell 3
               have d14 := b2.cell 4
               simp at d10 d11 d12 d13 d14
               ))
          refine bodyPost_ret (v := .bool false) (by simp [results, Tryd.results57, go_sem]) rfl (FIN.out _ _ S2 HR.out)
        · subst h0
          have h2 : ((fn : Int) != 2) = false := by rw [h2]; rfl
          have HR := Lib.hid hr
          clear hr
          go_wp2_with (first
            | (go_at_call 75; (with_reducible refine (HT.out wc).mono ?_); rintro e w1 ⟨rfl, hb1⟩
               have S2 := S1.call hb1
               have b2 := b1.call hb1
               have d10 := b2.cell 0
               have d11 := b2.cell 1
               have d12 := b2.cell 2
               have d13 := b2.cell 3
               have d14 := b2.cell 4
               simp at d10 d11 d12 d13 d14
               ))
          refine bodyPost_ret (v := .bool false) (by simp [results, Tryd.results57, go_sem]) rfl (FIN.out _ _ S2 HR.out)
        · subst h0
          have HR := Lib.hid hr
          clear hr
          go_wp2_with (first
            | (go_at_call 75; (with_reducible refine (HT.out wc).mono ?_); rintro e w1 ⟨rfl, hb1⟩
               have S2 := S1.call hb1
               have b2 := b1.call hb1
               have d10 := b2.cell 0
               have d11 := b2.cell 1
               have d12 := b2.cell 2
               have d13 := b2.cell 3
               have d14 := b2.cell 4
               simp at d10 d11 d12 d13 d14
               ))
          refine bodyPost_ret (v := .bool (((fn : Int) != 6))) (by simp [results, Tryd.results57, go_sem]) rfl (FIN.out _ _ S2 HR.out)
      · obtain h | ⟨-, h⟩ := HJ'.out
        · exact absurd h.1 (by simp)
        clear HJ'
        rcases h with ⟨h0, hr⟩ | ⟨h0, ⟨h15, hr⟩ | ⟨h15, ⟨h2, hr⟩ | ⟨h2, hr⟩⟩⟩
        · have h0 : (arg == 0) = false := by simpa using h0
          have HR := Lib.hid hr
          clear hr
          go_wp2_with (first
            | (go_at_call 75; (with_reducible refine (HT.out wc).mono ?_); rintro e w1 ⟨rfl, hb1⟩
               have S2 := S1.call hb1
               have b2 := b1.call hb1
               have d10 := b2.cell 0
               have d11 := b2.cell 1
               have d12 := b2.cell 2
               have d13 := b2.cell 3
               have d14 := b2.cell 4
               simp at d10 d11 d12 d13 d14
               ))
          refine bodyPost_ret (v := .bool false) (by simp [results, Tryd.results57, go_sem]) rfl (FIN.out _ _ S2 HR.out)
        · subst h0
          have HR := Lib.hid hr
          clear hr
          go_wp2_with (first
            | (go_at_call 75; (with_reducible refine (HT.out wc).mono ?_); rintro e w1 ⟨rfl, hb1⟩
               have S2 := S1.call hb1
               have b2 := b1.call hb1
               have d10 := b2.cell 0
               have d11 := b2.cell 1
               have d12 := b2.cell 2
               have d13 := b2.cell 3
               have d14 := b2.cell 4
               simp at d10 d11 d12 d13 d14
               ))
          refine bodyPost_ret (v := .bool false) (by simp [results, Tryd.results57, go_sem]) rfl (FIN.out _ _ S2 HR.out)
        · subst h0
          have h2 : ((fn : Int) != 2) = false := by rw [h2]; rfl
          have HR := Lib.hid hr
          clear hr
          go_wp2_with (first
            | (go_at_call 75; (with_reducible refine (HT.out wc).mono ?_); rintro e w1 ⟨rfl, hb1⟩
               have S2 := S1.call hb1
               have b2 := b1.call hb1
               have d10 := b2.cell 0
               have d11 := b2.cell 1
               have d12 := b2.cell 2
               have d13 := b2.cell 3
               have d14 := b2.cell 4
               simp at d10 d11 d12 d13 d14
               ))
          refine bodyPost_ret (v := .bool false) (by simp [results, Tryd.results57, go_sem]) rfl (FIN.out _ _ S2 HR.out)
        · subst h0
          have HR := Lib.hid hr
          clear hr
          go_wp2_with (first
            | (go_at_call 75; (with_reducible refine (HT.out wc).mono ?_); rintro e w1 ⟨rfl, hb1⟩
               have S2 := S1.call hb1
               have b2 := b1.call hb1
               have d10 := b2.cell 0
               have d11 := b2.cell 1
               have d12 := b2.cell 2
               have d13 := b2.cell 3
               have d14 := b2.cell 4
               simp at d10 d11 d12 d13 d14
               ))
          refine bodyPost_ret (v := .bool (((fn : Int) != 6))) (by simp [results, Tryd.results57, go_sem]) rfl (FIN.out _ _ S2 HR.out)
    · cases zf
      · go_wp2
        refine bodyPost_ret (v := .bool false) (by simp [results, Tryd.results57, go_sem]) rfl ⟨by rw [HV.out]; simp, S1.k⟩
      · go_wp2_with (go_at_call 76; refine HM1.out.mono ?_; rintro e w1 ⟨rfl, hb1⟩)
        refine bodyPost_ret (v := .bool bm) (by simp [results, Tryd.results57, go_sem]) rfl ⟨by rw [HV.out]; simp, (S1.call hb1).k⟩
end Go.Proofs.YtljeecocbcffcaaDoor

/- At, Check and address of the reference, walked. -/
namespace Go.Proofs.YtljeecocbcffcaaDoor
open Go.RowKit Go.Maps Go.WideMaps Go.Shelf
set_option linter.unusedSimpArgs false
set_option linter.unusedVariables false

/-- The number of the line with a label; -1: there is none. -/
def atI (ls : List LineL) (nm : List UInt8) : Int := match atL ls nm with | some j => (j : Int) | none => -1
theorem atL_hit {ls : List LineL} {nm : List UInt8} {k : Nat} {x : LineL} (hx : ls[k]? = some x) (he : (x.label == nm) = true) (hb : atL (ls.take k) nm = none) : atL ls nm = some k := by
  obtain ⟨h1, h2⟩ := List.getElem?_eq_some_iff.1 hx
  have e : ls = ls.take k ++ x :: ls.drop (k + 1) := by
    rw [← h2, ← List.drop_eq_getElem_cons h1, List.take_append_drop]
  have hl : (ls.take k).length = k := by rw [List.length_take]; omega
  unfold atL at hb ⊢
  rw [e, List.findIdx?_append, hb, List.findIdx?_cons, he, hl]
  simp
theorem atL_take {ls : List LineL} {nm : List UInt8} {k : Nat} {x : LineL} (hx : ls[k]? = some x) (he : (x.label == nm) = false) (hb : atL (ls.take k) nm = none) : atL (ls.take (k + 1)) nm = none := by
  rw [take_succ_of hx, atL_snoc, hb, he]; rfl
theorem str_eqs (a b : List UInt8) : ((strB a).toList == (strB b).toList) = (a == b) := by
  rw [ByteArray.toList_eq, ByteArray.toList_eq]; simp [strB]
set_option maxRecDepth 100000 in
theorem rAt (ls : List LineL) (nm : List UInt8) (A : Option Addr) (n c : Nat) (w : World) (hr : Reads w w.heap.size 5 A n (linesL ls)) (hn : n ≤ 1000000) :
    Calls Tryd.prog 29 #[.slice A n c, .string (strB nm)] w (RetV (.int .i64 (atI ls nm)) w) := by
  have HN := Lib.hid (lines_len hr)
  go_enter Tryd.func29, Tryd.ntmps29
  go_wp2
  go_loopw [5] (fun i wr => ∃ k : Nat, i = .int .i64 k ∧ k ≤ n ∧ Hid (atL (ls.take k) nm = none) ∧ ∃ q, wr = w.drewN q) (fun i _ => n - (intOf i).toNat)
  case atStart => exact ⟨0, rfl, by omega, Lib.hid rfl, 0, rfl⟩
  case round =>
    obtain ⟨k, rfl, hk, ht, q, rfl⟩ := hrel
    by_cases hlt : k < n
    · have hki : (k : Int) < (n : Int) := by omega
      obtain ⟨b1, o1, x, rfl, hb1, ex, c0, c1, c2, c3, c4⟩ := lines_at hr hlt
      have Ex := Lib.hid ex
      have hcmp := str_eqs x.label nm
      clear ex hr
      cases hq : (x.label == nm)
      · rw [hq] at hcmp
        have HQ := Lib.hid hq
        clear hq
        go_wp2
        go_roundw
        case rel => exact ⟨k + 1, by go_num, by omega, Lib.hid (atL_take Ex.out HQ.out ht.out), _, rfl⟩
        case measure => simp [intOf]; omega
      · rw [hq] at hcmp
        have HR := Lib.hid (show atI ls nm = k by unfold atI; rw [atL_hit Ex.out hq ht.out])
        clear hq
        go_wp2
        go_ret
        exact ⟨by rw [HR.out]; rfl, (Below.refl _ _).drewN' _⟩
    · have hki : ¬ (k : Int) < (n : Int) := by omega
      obtain rfl : n = k := by omega
      have HR := Lib.hid (show atI ls nm = -1 by have h := ht.out; rw [List.take_of_length_le (by rw [HN.out]; omega)] at h; unfold atI; rw [h])
      clear ht
      go_wp2
      go_ret
      exact ⟨by rw [HR.out]; rfl, (Below.refl _ _).drewN' _⟩
theorem atI_some {ls : List LineL} {nm : List UInt8} {i : Nat} : (atL ls nm == some i) = (atI ls nm == (i : Int)) := by
  unfold atI
  cases h : atL ls nm with
  | none => rw [Bool.eq_iff_iff]; simp
  | some j => simp; rw [Bool.eq_iff_iff]; simp; omega
theorem atI_neg {ls : List LineL} {nm : List UInt8} : (atL ls nm).isSome = !decide (atI ls nm < 0) := by
  unfold atI
  cases h : atL ls nm with
  | none => simp
  | some j => simp
theorem atI_toNat {ls : List LineL} {nm : List UInt8} : (atI ls nm).toNat = (atL ls nm).getD 0 := by
  unfold atI
  cases h : atL ls nm with
  | none => simp
  | some j => simp
theorem adr_le9 {l : List Nat} (h : ∀ i, l.getD i 0 ≤ 9) : ∀ k, adr l k ≤ 9 * k
  | 0 => Nat.le_refl _
  | k + 1 => by rw [adr]; have := adr_le9 h k; have := h k; omega
end Go.Proofs.YtljeecocbcffcaaDoor

/- The laws' sample lines, walked; what is computed of them. -/
namespace Go.Proofs.YtljeecocbcffcaaDoor
open Go.RowKit Go.Maps Go.WideMaps Go.Shelf
set_option linter.unusedSimpArgs false
set_option linter.unusedVariables false

def sampleL : List LineL := [⟨[97], 0, 0, [98], []⟩, ⟨[], 4, 300, [], []⟩, ⟨[98], 0, 0, [97], []⟩, ⟨[], 4, 0, [98], [97]⟩]
theorem sample_ok : ∀ x ∈ sampleL, LOk x := by
  intro x hx
  simp only [sampleL, List.mem_cons, List.not_mem_nil, or_false] at hx
  rcases hx with rfl | rfl | rfl | rfl <;> exact ⟨by decide, by unfold is32; decide, by decide, by decide, by decide⟩
theorem sample_check : checkE sampleL = 0 := by decide +kernel
theorem sample_check1 : checkE (sampleL.take 1) = 60 := by decide +kernel
theorem sample_fix : fixL (opds sampleL) = [1, 3, 2, 1] := by decide +kernel
theorem sample_code : codeL sampleL = [3, 33, 34, 76, 96, 10, 68] := by decide +kernel
theorem sample_adrs : adrs (fixL (opds sampleL)) 4 = [0, 1, 4, 6, 7] := by decide +kernel
theorem sample_all : (sampleL.drop 2).all validB = true := by decide +kernel
theorem sample_text : textT (sampleL.drop 2) = [98, 58, 32, 106, 32, 97, 10, 108, 100, 99, 32, 98, 45, 97, 10] := by decide +kernel
theorem sample_read : readT 16 [98, 58, 32, 106, 32, 97, 10, 108, 100, 99, 32, 98, 45, 97, 10] [] 0 = (sampleL.drop 2, 0, 0) := by
  rw [← sample_text]
  have := readT_text (sampleL.drop 2) 16 [] 0 (fun x hx => by
    have h1 := List.all_eq_true.1 sample_all x hx
    exact ⟨h1, (sample_ok x (List.mem_of_mem_drop hx)).arg⟩) (by decide)
  simpa using this
theorem Reads.sub {w : World} {g : Nat} {t : TypeId} {xs : List Value} (h : Blk w g t xs.toArray) (k n size : Nat) (hn : (k + n) * size ≤ xs.length) : Reads w w.heap.size size (some ⟨g, k * size, none⟩) n ((xs.drop (k * size)).take (n * size)) := by
  refine ⟨?_, fun hp => ⟨_, rfl, h.lt, fun j u hu => ?_⟩⟩
  · rw [List.length_take, List.length_drop]
    rw [Nat.add_mul] at hn
    omega
  · have hj : j < n * size := by
      have := (List.getElem?_eq_some_iff.1 hu).1
      rw [List.length_take] at this; omega
    rw [List.getElem?_take_of_lt hj, List.getElem?_drop] at hu
    have hadd : (⟨g, k * size, none⟩ : Addr).add j = ⟨g, k * size + j, none⟩ := by unfold Addr.add; split <;> simp_all
    rw [hadd, h.cell (k * size + j)]
    simpa using hu
theorem lSample (w : World) : Calls Tryd.prog 47 #[] w fun e w' => e = .returned (.slice (some ⟨w.heap.size, 0, none⟩) 4 4) ∧ w' = w.alloc (.cells (linesL sampleL).toArray 27) := by
  have e : (linesL sampleL).toArray = #[Value.string ⟨#[97]⟩, .int .u8 0, .int .i32 0, .string ⟨#[98]⟩, .string ⟨#[]⟩, .string ⟨#[]⟩, .int .u8 4, .int .i32 300, .string ⟨#[]⟩, .string ⟨#[]⟩, .string ⟨#[98]⟩, .int .u8 0, .int .i32 0, .string ⟨#[97]⟩, .string ⟨#[]⟩, .string ⟨#[]⟩, .int .u8 4, .int .i32 0, .string ⟨#[98]⟩, .string ⟨#[97]⟩] := rfl
  rw [e]
  go_enter Tryd.func47, Tryd.ntmps47
  go_wp2
  go_ret
  exact ⟨rfl, rfl⟩
theorem sample_reads (w : World) : Reads (w.alloc (.cells (linesL sampleL).toArray 27)) (w.alloc (.cells (linesL sampleL).toArray 27)).heap.size 5 (some ⟨w.heap.size, 0, none⟩) 4 (linesL sampleL) :=
  Reads.sub (Blk.new w 27 (linesL sampleL).toArray) 0 4 5 (by decide)
theorem sample_reads1 (w : World) : Reads (w.alloc (.cells (linesL sampleL).toArray 27)) (w.alloc (.cells (linesL sampleL).toArray 27)).heap.size 5 (some ⟨w.heap.size, 0, none⟩) 1 (linesL (sampleL.take 1)) :=
  Reads.sub (Blk.new w 27 (linesL sampleL).toArray) 0 1 5 (by decide)
theorem sample_reads2 (w : World) : Reads (w.alloc (.cells (linesL sampleL).toArray 27)) (w.alloc (.cells (linesL sampleL).toArray 27)).heap.size 5 (some ⟨w.heap.size, 10, none⟩) 2 (linesL (sampleL.drop 2)) :=
  Reads.sub (Blk.new w 27 (linesL sampleL).toArray) 2 2 5 (by decide)
end Go.Proofs.YtljeecocbcffcaaDoor

/- What the row's condition on package-level variables gives the walks of chapter 06, and how its arguments read. -/
namespace Go.Proofs.YtljeecocbcffcaaDoor
open Go.ChangeShapes Go.WideShapes Go.ChangeAt Go.RowKit

theorem i32_bounds {a : Int} (h : (Lit.int .i32 a).wf = true) : -2147483648 ≤ a ∧ a ≤ 2147483647 := by
  have := (Lit.wf_int_iff _ _).1 h
  simp [IntKind.min, IntKind.max, IntKind.signed, IntKind.bits] at this
  omega
theorem u8_bounds {a : Int} (h : (Lit.int .u8 a).wf = true) : 0 ≤ a ∧ a ≤ 255 := by
  have := (Lit.wf_int_iff _ _).1 h
  simp [IntKind.min, IntKind.max, IntKind.signed, IntKind.bits] at this
  omega
theorem Tryd.own : ownKnob Tryd.prog.godebug = none := by kernel_rfl
theorem Tryd.laidOut : laidOutB Tryd.prog = true := by kernel_rfl
abbrev laidL : List (String × DataW Unit) := Rows.asmReadRow.laid
theorem laid_shaped (os : Os) : (World.laidAll Tryd.prog os laidL).Shaped Tryd.prog := World.shaped_of_ZipB (by kernel_rfl) (by kernel_rfl)
theorem laid_met (os : Os) (args : Array Value) : laidMetH Tryd.prog laidL ((World.laidAll Tryd.prog os laidL).forCall (fun _ _ => 0) ⟨#[], args, []⟩).memory := by
  rw [MakeChecks.laidMetH_plain _ _ _ (by kernel_rfl)]
  exact laidMet_laidAll _ (by kernel_rfl) (by kernel_rfl)
theorem var_below {w w' : World} {B : Nat} {n : String} {cs : Array Value} {g : Nat} (hg : Tryd.prog.globalNamed n = some g) (h : w.var? Tryd.prog n = some cs) (hb : Below B w w') (hB : g < B) : w'.var? Tryd.prog n = some cs := by
  unfold World.var? at h ⊢
  simp only [hg, Option.bind_some] at h ⊢
  rw [hb.block g hB]
  exact h
theorem var_lt {w : World} {n : String} {cs : Array Value} {g : Nat} (hg : Tryd.prog.globalNamed n = some g) (h : w.var? Tryd.prog n = some cs) : g < w.heap.size := by
  unfold World.var? at h
  simp only [hg, Option.bind_some] at h
  rcases Nat.lt_or_ge g w.heap.size with h' | h'
  · exact h'
  · simp [Array.getElem?_eq_none h'] at h
theorem gS : Tryd.prog.globalNamed "strconv.ErrSyntax" = some 3 := by kernel_rfl
theorem gR : Tryd.prog.globalNamed "strconv.ErrRange" = some 4 := by kernel_rfl
theorem gP : Tryd.prog.globalNamed "internal/strconv.uint64pow10" = some 6 := by kernel_rfl
theorem gA : Tryd.prog.globalNamed "strings.asciiSpace" = some 2 := by kernel_rfl
theorem gF : Tryd.prog.globalNamed "transputer/instr.functions" = some 0 := by kernel_rfl
theorem star_es : "*" ++ "errors.errorString" = "*errors.errorString" := by decide
theorem rowE (u : TypeId) (h : Tryd.prog.typeName? 3 u = some "*errors.errorString") : u = 177 :=
  typeName_ptr_named (nm := "errors.errorString") (by rw [star_es]; kernel_rfl) (by kernel_rfl) (by decide) u (by rw [star_es]; exact h)
/-- An array of strings that reads as the list holds just these. -/
theorem cells_of_strs {H : Type} {enc : TypeId × Value → H} {P : Program} {w : World} {base : Nat} {sp : Nat → Bool} {held : Bool} {fuel : Nat} {t e : TypeId} {n : Nat} {cs : List Value} {zs : List (List UInt8)} {p : List MemPlace}
    (ht : P.underlying t = some (.array n e)) (he : P.underlying e = some .string) (hce : P.cellsOf e = 1) (hct : P.cellsOf t = n)
    (h : DataW.trod enc P w base sp held fuel t cs = some (.agg (zs.map fun z => .lit (.string z)), p)) : cs = zs.map fun z => Value.string (strB z) := by
  cases fuel with
  | zero => simp [DataW.trod] at h
  | succ fuel =>
    simp only [DataW.trod, ht, hce, hct, Nat.mul_one] at h
    split at h
    · rename_i hl
      obtain ⟨xs, hm, hx⟩ := Option.map_eq_some_iff.1 h
      have hxs : xs.map (·.1) = zs.map fun z => (DataW.lit (.string z) : DataW H) := by
        have := congrArg Prod.fst hx
        simpa using this
      have hxl : xs.length = n := by simpa using Lib.mapM_length hm
      have hzl : zs.length = n := by
        have := congrArg List.length hxs
        simp at this
        omega
      apply List.ext_getElem?
      intro i
      by_cases hi : i < n
      · obtain ⟨b, hb, hf⟩ := Lib.mapM_at hm i i (by simp [hi])
        obtain ⟨z, hc, rfl, _⟩ := DataW.trod_string he hf
        have h1 : cs[i]? = some (.string z) := by
          have := congrArg (·[0]?) hc
          simpa [List.getElem?_take, List.getElem?_drop] using this
        have h2 : (xs.map (·.1))[i]? = some (DataW.lit (.string z.data.toList) : DataW H) := by simp [hb]
        rw [hxs] at h2
        simp only [List.getElem?_map, Option.map_eq_some_iff, DataW.lit.injEq, Lit.string.injEq] at h2
        obtain ⟨z', hz', rfl⟩ := h2
        simp [h1, hz', strB]
      · rw [List.getElem?_eq_none (by omega), List.getElem?_eq_none (by simp; omega)]
    · cases h
theorem fn_data : (Rows.laid_transputer_instr_functions : DataW Unit) = .agg (fnL.map fun z => .lit (.string z)) := by
  simp only [Rows.laid_transputer_instr_functions, fnL, List.map_cons, List.map_nil]
theorem fns_of_head {W : World} {rest : List (String × DataW Unit)} (h : laidMet Tryd.prog (("transputer/instr.functions", Rows.laid_transputer_instr_functions) :: rest) W) : W.var? Tryd.prog "transputer/instr.functions" = some fnV := by
  rw [fn_data] at h
  obtain ⟨ps, ⟨g', t', cs, fuel, p, q, hg', ht', hvar, hd, _, _⟩, _⟩ := h
  obtain rfl := Option.some.inj (gF.symm.trans hg')
  have hty : (Tryd.prog.globals[0]?).map (·.type) = some 127 := by kernel_rfl
  obtain rfl := Option.some.inj (hty.symm.trans ht')
  have hc := cells_of_strs Tryd.underlying127 Tryd.underlying9 (by kernel_rfl) (by kernel_rfl) hd
  rw [hvar]
  congr 1
  apply Array.toList_inj.1
  rw [hc]
  rfl
theorem fnsAt_of {w : World} (h : w.var? Tryd.prog "transputer/instr.functions" = some fnV) : FnsAt w := by
  unfold World.var? at h
  simp only [gF, Option.bind_some] at h
  split at h
  · rename_i o cs t f heq
    refine ⟨t, f, ?_⟩
    obtain rfl := Option.some.inj h
    exact heq
  · cases h
set_option maxRecDepth 100000 in
theorem laid_of {W : World} (h : laidMetH Tryd.prog laidL W) : Laid5 W.heap.size W := by
  rw [MakeChecks.laidMetH_plain _ _ _ (by kernel_rfl)] at h
  have h2 := h.tail.tail
  have h3 := h2.tail
  have h4 := h3.tail
  have h6 := h4.tail.tail
  have h7 := h6.tail
  have hT : Lib.TabIs Tryd.prog W "internal/strconv.uint64pow10" .u64 Lib.pow10Tab :=
    Lib.tabIs_of_head gP (t := 181) (e := 82) (n := 20) (by kernel_rfl) Tryd.underlying181 Tryd.underlying82 (by kernel_rfl) (by kernel_rfl) h2
  have hA : Lib.TabIs Tryd.prog W "strings.asciiSpace" .u8 Lib.asciiSpaceTab :=
    Lib.tabIs_of_head gA (t := 157) (e := 5) (n := 256) (by kernel_rfl) Tryd.underlying157 Tryd.underlying5 (by kernel_rfl) (by kernel_rfl) h6
  have hF := fns_of_head h7
  have tS : (Tryd.prog.globals[3]?).map (·.type) = some 106 := by kernel_rfl
  have tR : (Tryd.prog.globals[4]?).map (·.type) = some 106 := by kernel_rfl
  have cE : Tryd.prog.cellsOf 179 = 1 := by kernel_rfl
  have c9 : Tryd.prog.cellsOf 9 = 1 := by kernel_rfl
  obtain ⟨a1, s1, hv1, -, -, -⟩ := laid_sentinel h3 gR tR Tryd.underlying106 rowE Tryd.underlying177 Tryd.underlying179 rfl rfl Tryd.underlying9 cE c9
  obtain ⟨a0, s0, hv0, -, -, -⟩ := laid_sentinel h4 gS tS Tryd.underlying106 rowE Tryd.underlying177 Tryd.underlying179 rfl rfl Tryd.underlying9 cE c9
  exact ⟨⟨_, _, _, _, fun w' hb => ⟨var_below gS hv0 hb (var_lt gS hv0), var_below gR hv1 hb (var_lt gR hv1), var_below gP hT hb (var_lt gP hT)⟩⟩,
    fun w' hb => var_below gA hA hb (var_lt gA hA), fun w' hb => fnsAt_of (var_below gF hF hb (var_lt gF hF))⟩
theorem maxLt_of {W : World} (h : W.ShapedOpen Tryd.prog) : 1 < W.heap.size := by
  obtain ⟨m, hm⟩ := Tryd.laysM145.s1_3 W h
  have hm' : W.cell? ⟨1, 0, none⟩ = some (.int .i64 m) := hm
  rcases Nat.lt_or_ge 1 W.heap.size with h' | h'
  · exact h'
  · simp [World.cell?, Array.getElem?_eq_none h'] at hm'
theorem maxAt_of {W : World} (h : W.ShapedOpen Tryd.prog) : MaxAt W.heap.size W := by
  obtain ⟨m, hm⟩ := Tryd.laysM145.s1_3 W h
  have hm' : W.cell? ⟨1, 0, none⟩ = some (.int .i64 m) := hm
  have hlt : 1 < W.heap.size := by
    rcases Nat.lt_or_ge 1 W.heap.size with h' | h'
    · exact h'
    · simp [World.cell?, Array.getElem?_eq_none h'] at hm'
  exact fun w' hb => ⟨m, (hb.cell (p := ⟨1, 0, none⟩) hlt).trans hm'⟩
instance : Inhabited LineL := ⟨⟨[], 0, 0, [], []⟩⟩
section
variable {H : Type} {enc : TypeId × Value → H} {w : World} {base : Nat} {sp : Nat → Bool} {held : Bool} {fuel : Nat} {cs : List Value} {y : DataW H × List MemPlace}
theorem fsL : Tryd.prog.underlying 27 = some (.struct #[⟨ "Label", 9, 0, false, "", "", 0⟩, ⟨ "Fn", 5, 1, false, "", "", 16⟩, ⟨ "Arg", 21, 2, false, "", "", 20⟩, ⟨ "Target", 9, 3, false, "", "", 24⟩, ⟨ "From", 9, 4, false, "", "", 40⟩]) := by kernel_rfl
set_option maxRecDepth 100000 in
theorem open_line (h : DataW.trod enc Tryd.prog w base sp held fuel 27 cs = some y) (hw : Light Tryd.prog 27 y.1) : ∃ x : LineL, cs = (lineC x).toList ∧ LOk x := by
  obtain ⟨f, parts, hl, hy, hx⟩ := trod_struct_inv2 fsL h
  rw [hy] at hw
  have hl2 : cs.length = 5 := by rw [hl]; kernel_rfl
  have e3 : Tryd.prog.cellsOf 5 = 1 := by kernel_rfl
  have e4 : Tryd.prog.cellsOf 21 = 1 := by kernel_rfl
  have e9 : Tryd.prog.cellsOf 9 = 1 := by kernel_rfl
  match cs, hl2 with
  | [v0, v1, v2, v3, v4], _ =>
    obtain ⟨z0, h0, q0⟩ := hx 0 _ rfl
    obtain ⟨z1, h1, q1⟩ := hx 1 _ rfl
    obtain ⟨z2, h2, q2⟩ := hx 2 _ rfl
    obtain ⟨z3, h3, q3⟩ := hx 3 _ rfl
    obtain ⟨z4, h4, q4⟩ := hx 4 _ rfl
    have l0 := hw.part fsL (j := 0) rfl q0
    have l3 := hw.part fsL (j := 3) rfl q3
    have l4 := hw.part fsL (j := 4) rfl q4
    simp only at h0 h1 h2 h3 h4 l0 l3 l4
    obtain ⟨s0, ha, hs0⟩ := trod_string_inv2 Tryd.underlying9 h0
    obtain ⟨a, hb, wa⟩ := trod_int_inv Tryd.underlying5 h1
    obtain ⟨b, hc, wb⟩ := trod_int_inv Tryd.underlying21 h2
    obtain ⟨s3, hd, hs3⟩ := trod_string_inv2 Tryd.underlying9 h3
    obtain ⟨s4, he, hs4⟩ := trod_string_inv2 Tryd.underlying9 h4
    rw [hs0] at l0
    rw [hs3] at l3
    rw [hs4] at l4
    simp only [e3, e4, e9] at ha hb hc hd he
    simp at ha hb hc hd he
    subst ha hb hc hd he
    have ba := u8_bounds wa
    have bb := i32_bounds wb
    refine ⟨⟨s0.data.toList, a.toNat, b, s3.data.toList, s4.data.toList⟩, ?_, by simp only; omega, bb, l0.str, l3.str, l4.str⟩
    simp only [lineC]
    rw [show ((a.toNat : Nat) : Int) = a by omega]
    rfl
theorem open_lines (h : DataW.trod enc Tryd.prog w base sp held fuel 24 cs = some y) (hw : Light Tryd.prog 24 y.1) :
    ∃ A c ls, cs = [.slice A (ls.length : Nat) c] ∧ Reads w w.heap.size 5 A ls.length (linesL ls) ∧ (∀ x ∈ ls, LOk x) := by
  obtain ⟨A, m, c, ls, rfl, hr, rfl, ho, -, -⟩ := open_slice_of (α := LineL) (R := LOk) (cells := fun x => (lineC x).toList) (size := 5) (by kernel_rfl) (by decide) (fun x => by simp [lineC]) Tryd.underlying24 (fun f c z h1 h2 => open_line h1 h2) h hw
  exact ⟨A, c, ls, rfl, hr, ho⟩
theorem open_bytes (h : DataW.trod enc Tryd.prog w base sp held fuel 22 cs = some y) (hw : Light Tryd.prog 22 y.1) :
    ∃ (A : Option Addr) (c : Nat) (l : List UInt8), cs = [.slice A (l.length : Nat) c] ∧ Reads w w.heap.size 1 A l.length (l.map fun (x : UInt8) => .int .u8 (x.toNat : Int)) := by
  obtain ⟨A, m, c, l, rfl, hr, rfl, ho, -, -⟩ := open_slice_of (α := UInt8) (R := fun _ => True) (cells := fun (x : UInt8) => [Value.int .u8 (x.toNat : Int)]) (size := 1) (by kernel_rfl) (by decide) (fun x => rfl) Tryd.underlying22 (fun f c z h1 h2 => by
    obtain ⟨a, rfl, wa⟩ := trod_int_inv Tryd.underlying5 h1
    have ba := u8_bounds wa
    refine ⟨UInt8.ofNat a.toNat, ?_, trivial⟩
    have : ((UInt8.ofNat a.toNat).toNat : Int) = a := by rw [UInt8.toNat_ofNat']; omega
    rw [this]) h hw
  refine ⟨A, c, l, rfl, ?_⟩
  have e : ∀ l : List UInt8, l.flatMap (fun (x : UInt8) => [Value.int .u8 (x.toNat : Int)]) = l.map fun (x : UInt8) => .int .u8 (x.toNat : Int) := by
    intro l
    induction l with
    | nil => rfl
    | cons a r ih => rw [List.flatMap_cons, ih]; rfl
  rwa [e] at hr
end
end Go.Proofs.YtljeecocbcffcaaDoor
