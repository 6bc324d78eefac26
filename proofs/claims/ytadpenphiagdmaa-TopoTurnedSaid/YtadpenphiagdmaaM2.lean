/- walks: the program's own ports and its join -/
import Derived.Test.YtadpenphiagdmaaM1
namespace Go.Proofs.Ytadpenphiagdmaa
open Go.RowKit
set_option linter.unusedVariables false
set_option linter.unusedSimpArgs false

theorem MapIs.alloc {w : World} {b : Nat} {E : List (Pt × Pt)} (h : MapIs w b E) (o : Obj) : MapIs (w.alloc o) b E := (Below.heap_alloc w o b (Array.getElem?_eq_some_iff.1 h).1).trans h
theorem MapIs.drew {w : World} {b : Nat} {E : List (Pt × Pt)} (h : MapIs w b E) : MapIs w.drew b E := h
theorem MapIs.drewN {w : World} {b : Nat} {E : List (Pt × Pt)} (h : MapIs w b E) (n : Nat) : MapIs (w.drewN n) b E := h
theorem MapIs.lt {w : World} {b : Nat} {E : List (Pt × Pt)} (h : MapIs w b E) : b < w.heap.size := (Array.getElem?_eq_some_iff.1 h).1
theorem MapIs.below {w w' : World} {b B : Nat} {E : List (Pt × Pt)} (h : MapIs w b E) (k : Below B w w') (hb : b < B) : MapIs w' b E := (k.block b hb).trans h
theorem MapIs.call {w w' : World} {b : Nat} {E : List (Pt × Pt)} (h : MapIs w b E) (k : Below w.heap.size w w') : MapIs w' b E := h.below k h.lt
theorem MapIs.setCell {w : World} {b : Nat} {E : List (Pt × Pt)} (h : MapIs w b E) (p : Addr) (v : Value) : MapIs (w.setCell p v) b E := by
  unfold MapIs at h ⊢
  simp only [World.setCell, Array.getElem?_modify]
  split
  · rename_i hp; rw [h]; rfl
  · exact h
theorem MapIs.new (w : World) : MapIs (w.alloc (.map #[] 0)) w.heap.size [] := heap_alloc_new w _
/-- A turn of a map's block turns no cell. -/
theorem cell_putMap {w : World} {b : Nat} {E : List (Pt × Pt)} (h : MapIs w b E) (es : Array MapEntry) (n : Nat) (p : Addr) : (w.putObj b (.map es n)).cell? p = w.cell? p := by
  unfold MapIs at h
  unfold World.cell?
  by_cases hp : p.block = b
  · rw [hp, World.putObj_heap_same (Array.getElem?_eq_some_iff.1 h).1, h]
  · rw [World.putObj_heap_other hp]
theorem Blk.putMap {w : World} {b g : Nat} {t : TypeId} {cs : Array Value} {E : List (Pt × Pt)} (h : Blk w g t cs) (hm : MapIs w b E) (o : Obj) : Blk (w.putObj b o) g t cs := by
  unfold Blk at h ⊢
  rw [World.putObj_heap_other (fun e => by subst e; unfold MapIs at hm; rw [hm] at h; cases h)]; exact h
theorem _root_.Go.RowKit.Below.putObj {B : Nat} {a w : World} (h : Below B a w) {b : Nat} (hb : B ≤ b) (o : Obj) : Below B a (w.putObj b o) :=
  h.trans ⟨rfl, rfl, rfl, by simp [World.putObj], fun k hk => World.putObj_heap_other (by omega)⟩
theorem SBl.putMap {B : Nat} {wr w : World} (h : SBl B wr w) {b : Nat} {E : List (Pt × Pt)} (hm : MapIs w b E) (es : Array MapEntry) (n : Nat) : SBl B wr (w.putObj b (.map es n)) :=
  ⟨by simpa [World.putObj] using h.1, fun c o hc => by rw [cell_putMap hm]; exact h.2 c o hc⟩

set_option maxHeartbeats 400000 in
theorem texists (n a b : Int) (w : World) :
    Calls Try.prog 37 #[.int .i64 n, .agg #[.int .i64 a, .int .i64 b]] w (RetV (.bool (existsB n a b)) w) := by
  go_enter Try.func37, Try.ntmps37
  go_wp2
  all_goals
    go_ret
    exact ⟨by congr 2; unfold existsB; simp_all; try omega, (Below.refl _ _).alloc (Nat.le_refl _) _⟩

def pairs (ws : List Wire) : List (Pt × Pt) := ws.flatMap fun x => [((x.a, x.b), (x.c, x.d)), ((x.c, x.d), (x.a, x.b))]
theorem portEq_symm (a b c d : Int) : portEq a b c d = portEq c d a b := by simp only [portEq]; congr 1; apply propext; constructor <;> (rintro ⟨rfl, rfl⟩; exact ⟨rfl, rfl⟩)
theorem lookL_pairs (ws : List Wire) (a b : Int) : lookL (pairs ws) (a, b) = peerL ws a b := by
  induction ws with
  | nil => rfl
  | cons x r ih =>
    have e : pairs (x :: r) = ((x.a, x.b), (x.c, x.d)) :: ((x.c, x.d), (x.a, x.b)) :: pairs r := rfl
    rw [e]
    simp only [lookL, List.find?_cons, peerL] at ih ⊢
    by_cases h1 : x.a = a ∧ x.b = b
    · have : portEq a b x.a x.b = true := by simp [portEq, h1.1, h1.2]
      rw [this, if_pos h1]; rfl
    · have : portEq a b x.a x.b = false := by simp only [portEq, decide_eq_false_iff_not]; rintro ⟨rfl, rfl⟩; exact h1 ⟨rfl, rfl⟩
      rw [this, if_neg h1]
      by_cases h2 : x.c = a ∧ x.d = b
      · have : portEq a b x.c x.d = true := by simp [portEq, h2.1, h2.2]
        simp only [this]; rw [if_pos h2]; rfl
      · have : portEq a b x.c x.d = false := by simp only [portEq, decide_eq_false_iff_not]; rintro ⟨rfl, rfl⟩; exact h2 ⟨rfl, rfl⟩
        simp only [this]; rw [if_neg h2]; exact ih
theorem pairs_take {ws : List Wire} {k : Nat} {x : Wire} (hx : ws[k]? = some x) : pairs (ws.take (k + 1)) = pairs (ws.take k) ++ [((x.a, x.b), (x.c, x.d))] ++ [((x.c, x.d), (x.a, x.b))] := by
  obtain ⟨hk, rfl⟩ := List.getElem?_eq_some_iff.1 hx
  rw [List.take_succ_eq_append_getElem hk]; simp only [pairs, List.flatMap_append, List.append_assoc]; rfl

def wireOk (N hn hl : Int) (pre : List Wire) (x : Wire) : Bool :=
  !(peerL pre x.a x.b).isSome && !(peerL pre x.c x.d).isSome && !(x.a == x.c) && !portEq x.a x.b hn hl && !portEq x.c x.d hn hl && existsB N x.a x.b && existsB N x.c x.d
def wireAt (N hn hl : Int) (ws : List Wire) (i : Nat) : Bool := match ws[i]? with
  | some x => wireOk N hn hl (ws.take i) x
  | none => true
def joinB (N hn hl : Int) (ws : List Wire) : Bool :=
  decide (1 ≤ N) && decide (N ≤ 8) && decide (ws.length ≤ 32) && existsB N hn hl && (List.range ws.length).all (wireAt N hn hl ws)
theorem join_low {N : Int} {ws : List Wire} {hn hl : Int} (h : N < 1) : joinB N hn hl ws = false := by simp [joinB]; omega
theorem join_high {N : Int} {ws : List Wire} {hn hl : Int} (h : 8 < N) : joinB N hn hl ws = false := by simp [joinB]; omega
theorem join_many {N : Int} {ws : List Wire} {hn hl : Int} (h : 32 < ws.length) : joinB N hn hl ws = false := by simp [joinB]; omega
theorem join_host {N : Int} {ws : List Wire} {hn hl : Int} (h : existsB N hn hl = false) : joinB N hn hl ws = false := by simp [joinB, h]
theorem join_wire {N : Int} {ws : List Wire} {hn hl : Int} {i : Nat} {x : Wire} (hx : ws[i]? = some x) (h : wireOk N hn hl (ws.take i) x = false) : joinB N hn hl ws = false := by
  have : (List.range ws.length).all (wireAt N hn hl ws) = false := by
    rw [List.all_eq_false]
    exact ⟨i, by simpa using (List.getElem?_eq_some_iff.1 hx).1, by simp [wireAt, hx, h]⟩
  simp [joinB, this]
theorem join_yes {N : Int} {ws : List Wire} {hn hl : Int} (h1 : 1 ≤ N) (h8 : N ≤ 8) (h32 : ws.length ≤ 32) (hh : existsB N hn hl = true) (h : ∀ i, i < ws.length → wireAt N hn hl ws i = true) : joinB N hn hl ws = true := by
  have : (List.range ws.length).all (wireAt N hn hl ws) = true := by
    rw [List.all_eq_true]
    exact fun i hi => h i (by simpa using hi)
  simp [joinB, this, h1, h8, h32, hh]

/-- What join hands back. -/
def RetJ (ok : Bool) (cs : Nat → Array Value) (E : List (Pt × Pt)) (w : World) (e : Ending) (w' : World) : Prop :=
  Below w.heap.size w w' ∧ ((ok = false ∧ e = .returned (.tuple #[.pointer none, .bool false])) ∨
    (ok = true ∧ ∃ g r, e = .returned (.tuple #[.pointer (some ⟨g, 0, none⟩), .bool true]) ∧ Blk w' g 63 (cs r) ∧ MapIs w' r E ∧ w.heap.size ≤ g))
end Go.Proofs.Ytadpenphiagdmaa
