/- Texts that belong together, joined: what each one holds is told ahead of it. -/
import Derived.Test.YtekamebpjjkifaaHK44
import Derived.Test.YtekamebpjjkifaaHK38
import Derived.Laws.Rows
import Derived.Great.BuildSlice
/- Placings checked: what Check is to answer, in plain words; placings compared. -/
namespace Go.Proofs.Ytekamebpjjkifaa
open Go.RowKit Go.Maps
set_option linter.unusedSimpArgs false
set_option linter.unusedVariables false

/-- What a placing is to be, and whether there is one. -/
def wantP (k : KK) (t : TN) (x : Int × Int × Int) (y : Plc) : Plc × Bool :=
  if (hostQ k t x).2.1 = true then ((hostQ k t x).1, (hostQ k t x).2.2)
  else match rpeerOf t.N t.ws t.hn t.hl y.o.1 y.o.2 with
    | some q => (⟨x.1, y.o, q⟩, decide (y.o.1 = nodeI k t x.2.1.toNat ∧ q.1 = nodeI k t x.2.2.toNat))
    | none => (⟨x.1, y.o, (0, 0)⟩, false)
def tkI (d : List Plc) (p : Pt) : Bool := decide (p ∈ d.map (·.i))
def okC (k : KK) (t : TN) (d : List Plc) (x : Int × Int × Int) (y : Plc) : Bool :=
  (wantP k t x y).2 && decide (y = (wantP k t x y).1) && !tkOf d y.o && !tkI d y.i
def checkN (k : KK) (t : TN) (bl : List (Int × Int × Int)) (l : List Plc) : Nat → Bool
  | 0 => true
  | j + 1 => checkN k t bl l j && (match bl[j]?, l[j]? with
    | some x, some y => okC k t (l.take j) x y
    | _, _ => false)
def checkQ (k : KK) (t : TN) (l : List Plc) : Bool :=
  if (betweenQ k).1 = 0 ∧ mayB t.N t.ws t.hn t.hl = true ∧ l.length = (betweenQ k).2.length then checkN k t (betweenQ k).2 l l.length else false
theorem checkN_step {k : KK} {t : TN} {bl : List (Int × Int × Int)} {l : List Plc} {j : Nat} {x : Int × Int × Int} {y : Plc} (h : checkN k t bl l j = true) (hx : bl[j]? = some x) (hy : l[j]? = some y) : checkN k t bl l (j + 1) = okC k t (l.take j) x y := by
  rw [checkN, h, hx, hy, Bool.true_and]
theorem checkN_false {k : KK} {t : TN} {bl : List (Int × Int × Int)} {l : List Plc} : ∀ {n j : Nat}, j ≤ n → checkN k t bl l j = false → checkN k t bl l n = false
  | 0, j, hj, h => by obtain rfl : j = 0 := by omega
                      exact h
  | n + 1, j, hj, h => by
    rcases Nat.lt_or_eq_of_le hj with hlt | rfl
    · rw [checkN, checkN_false (by omega) h, Bool.false_and]
    · exact h
theorem tkI_snoc (d : List Plc) (y : Plc) (p : Pt) : tkI (d ++ [y]) p = if p = y.i then true else tkI d p := by
  unfold tkI
  by_cases h : p = y.i
  · simp [h]
  · simp [h]
/-! Placings compared. -/
def plcEq (a b c d e a' b' c' d' e' : Int) : Bool := decide (a = a') && (portEq b c b' c' && portEq d e d' e')
theorem plcEq_iff (x y : Plc) : plcEq x.c x.o.1 x.o.2 x.i.1 x.i.2 y.c y.o.1 y.o.2 y.i.1 y.i.2 = decide (x = y) := by
  obtain ⟨a, ⟨b, c⟩, ⟨d, e⟩⟩ := x
  obtain ⟨a', ⟨b', c'⟩, ⟨d', e'⟩⟩ := y
  rw [Bool.eq_iff_iff]
  simp [plcEq, portEq, Plc.mk.injEq]
set_option maxRecDepth 100000 in
theorem plc_eqIn (w : World) (n : Nat) (a b c d e a' b' c' d' e' : Int) : (Op.equalIn (n + 3) 56 (.agg #[.int .i64 a, .int .i64 b, .int .i64 c, .int .i64 d, .int .i64 e]) (.agg #[.int .i64 a', .int .i64 b', .int .i64 c', .int .i64 d', .int .i64 e'])).run Try.prog w = .ok (plcEq a b c d e a' b' c' d' e') w := by
  rw [run_equalIn_struct w (n + 2) 56 _ _ (by kernel_rfl) (by kernel_rfl)]
  have hf : (Try.prog.fieldsOf 56).toList = [⟨ "C", 3, 0, false, "", "", 0⟩, ⟨ "Out", 38, 1, false, "", "", 8⟩, ⟨ "In", 38, 3, false, "", "", 24⟩] := by kernel_rfl
  rw [hf]
  have u3 := Try.underlying3
  have p1 : ∀ (v0 v1 v2 v3 v4 : Value), (part 38 #[v0, v1, v2, v3, v4] 1).run Try.prog w = .ok (.agg #[v1, v2]) w := fun _ _ _ _ _ => by kernel_rfl
  have p3 : ∀ (v0 v1 v2 v3 v4 : Value), (part 38 #[v0, v1, v2, v3, v4] 3).run Try.prog w = .ok (.agg #[v3, v4]) w := fun _ _ _ _ _ => by kernel_rfl
  have p0 : ∀ (v0 v1 v2 v3 v4 : Value), (part 3 #[v0, v1, v2, v3, v4] 0).run Try.prog w = .ok v0 w := fun _ _ _ _ _ => by kernel_rfl
  by_cases h1 : a = a' <;> cases h2 : portEq b c b' c' <;> cases h3 : portEq d e d' e' <;> simp [Op.eqFields, p0, p1, p3, run_equalIn_int _ _ _ _ _ _ _ u3, port_eqIn w n, plcEq, h1, h2, h3]
@[go_sem ↓] theorem plc_neq (w : World) (a b c d e a' b' c' d' e' : Int) : (binOp .neq 56 (.agg #[.int .i64 a, .int .i64 b, .int .i64 c, .int .i64 d, .int .i64 e]) (.agg #[.int .i64 a', .int .i64 b', .int .i64 c', .int .i64 d', .int .i64 e'])).run Try.prog w = .ok (.bool (!plcEq a b c d e a' b' c' d' e')) w := by
  simp only [binOp]
  simp [Op.equal, Op.maxDepth, plc_eqIn w 9997]
@[go_sem] theorem plcEq_self (a b c d e : Int) : plcEq a b c d e a b c d e = true := by simp [plcEq, portEq]
@[go_sem ↓] theorem plc_guard (w : World) (op : BinOp) (x y : Operand) (xs ys : Array Value) : (eqGuard op 56 x y (.agg xs) (.agg ys)).run Try.prog w = .ok () w :=
  run_eqGuard_agg w op 56 x y xs ys (by kernel_rfl)
theorem plc_len (x : Plc) : x.cells.toList.length = 5 := rfl
theorem plcs_at {w : World} {B n : Nat} {A : Option Addr} {l : List Plc} (h : Reads w B 5 A n (plcC l)) (hn : l.length = n) {k : Nat} (hk : k < n) :
    ∃ b off x, A = some ⟨b, off, none⟩ ∧ b < B ∧ l[k]? = some x ∧ x ∈ l ∧ w.cell? ⟨b, off + k * 5, none⟩ = some (.int .i64 x.c) ∧ w.cell? ⟨b, off + k * 5 + 1, none⟩ = some (.int .i64 x.o.1) ∧ w.cell? ⟨b, off + k * 5 + 2, none⟩ = some (.int .i64 x.o.2) ∧ w.cell? ⟨b, off + k * 5 + 3, none⟩ = some (.int .i64 x.i.1) ∧ w.cell? ⟨b, off + k * 5 + 4, none⟩ = some (.int .i64 x.i.2) := by
  subst hn
  obtain ⟨b, off, x, h1, h2, h3, h4, hc⟩ := row_at (f := fun x : Plc => x.cells.toList) plc_len (by decide) h hk
  exact ⟨b, off, x, h1, h2, h3, List.mem_of_getElem? h3, hc 0 _ rfl, hc 1 _ rfl, hc 2 _ rfl, hc 3 _ rfl, hc 4 _ rfl⟩
end Go.Proofs.Ytekamebpjjkifaa

/- The order of wires, and of the ports of a wire, makes no difference to placings: in plain words. -/
namespace Go.Proofs.Ytekamebpjjkifaa
open Go.RowKit
set_option linter.unusedSimpArgs false
set_option linter.unusedVariables false

theorem peerL_mem {ws : List Wire} {a b : Int} {q : Pt} (h : peerL ws a b = some q) : q ∈ portsOf ws := by
  induction ws with
  | nil => cases h
  | cons x r ih =>
    simp only [peerL] at h
    simp only [portsOf, List.flatMap_cons, List.mem_append, List.mem_cons, List.not_mem_nil, or_false]
    split at h
    · injection h with h; exact .inl (.inr h.symm)
    · split at h
      · injection h with h; exact .inl (.inl h.symm)
      · exact .inr (ih h)
theorem peerL_sym {ws : List Wire} (hd : (portsOf ws).Nodup) {a b : Int} {q : Pt} (h : peerL ws a b = some q) : peerL ws q.1 q.2 = some (a, b) := by
  induction ws with
  | nil => cases h
  | cons x r ih =>
    have e : portsOf (x :: r) = (x.a, x.b) :: (x.c, x.d) :: portsOf r := rfl
    rw [e, List.nodup_cons, List.nodup_cons] at hd
    obtain ⟨h1, h2, h3⟩ := hd
    simp only [List.mem_cons, not_or] at h1
    simp only [peerL] at h ⊢
    split at h
    · rename_i hab
      injection h with h; subst h
      rw [if_neg (fun e => h1.1 (by rw [Prod.mk.injEq]; exact e)), if_pos ⟨rfl, rfl⟩, hab.1, hab.2]
    · split at h
      · rename_i hcd
        injection h with h; subst h
        rw [if_pos ⟨rfl, rfl⟩, hcd.1, hcd.2]
      · have hm := peerL_mem h
        rw [if_neg, if_neg]
        · exact ih h3 h
        · rintro ⟨e1, e2⟩; exact h2 (by rw [e1, e2]; exact hm)
        · rintro ⟨e1, e2⟩; exact h1.2 (by rw [e1, e2]; exact hm)

theorem may_nodup {N hn hl : Int} {ws : List Wire} (h : mayB N ws hn hl = true) : (portsOf ws).Nodup := by
  simp only [mayB, Bool.and_eq_true] at h
  have h2 := ((portsOk_iff N _).1 h.1.1.2).2
  rw [List.nodup_cons] at h2
  exact h2.2
theorem peerL_wire {ws : List Wire} (hd : (portsOf ws).Nodup) {x : Wire} (hx : x ∈ ws) : peerL ws x.a x.b = some (x.c, x.d) := by
  induction ws with
  | nil => cases hx
  | cons y r ih =>
    have e : portsOf (y :: r) = (y.a, y.b) :: (y.c, y.d) :: portsOf r := rfl
    rw [e, List.nodup_cons, List.nodup_cons] at hd
    obtain ⟨h1, h2, h3⟩ := hd
    simp only [List.mem_cons, not_or] at h1
    rcases List.mem_cons.1 hx with rfl | hx
    · simp [peerL]
    · have hm : (x.a, x.b) ∈ portsOf r := List.mem_flatMap.2 ⟨x, hx, by simp⟩
      simp only [peerL]
      rw [if_neg, if_neg]
      · exact ih h3 hx
      · rintro ⟨e1, e2⟩; exact h2 (by rw [e1, e2]; exact hm)
      · rintro ⟨e1, e2⟩; exact h1.2 (by rw [e1, e2]; exact hm)
theorem may_links {N hn hl : Int} {ws : List Wire} (h : mayB N ws hn hl = true) : ∀ x ∈ ws, (0 ≤ x.a ∧ x.a < N ∧ 0 ≤ x.b ∧ x.b < 4) ∧ (0 ≤ x.c ∧ x.c < N ∧ 0 ≤ x.d ∧ x.d < 4) := by
  simp only [mayB, Bool.and_eq_true] at h
  have h2 := ((portsOk_iff N _).1 h.1.1.2).1
  intro x hx
  have ha := h2 (x.a, x.b) (List.mem_cons_of_mem _ (List.mem_flatMap.2 ⟨x, hx, by simp⟩))
  have hc := h2 (x.c, x.d) (List.mem_cons_of_mem _ (List.mem_flatMap.2 ⟨x, hx, by simp⟩))
  simp only [existsB, decide_eq_true_eq] at ha hc
  exact ⟨ha, hc⟩
def Wire.flip (x : Wire) : Wire := ⟨x.c, x.d, x.a, x.b⟩
/-- The second list has the first one's wires, turned or not, each at its place. -/
def Flips : List Wire → List Wire → Prop
  | [], [] => True
  | x :: r, y :: s => (y = x ∨ y = x.flip) ∧ Flips r s
  | _, _ => False
theorem Flips.len : ∀ {l s : List Wire}, Flips l s → s.length = l.length
  | [], [], _ => rfl
  | _ :: r, _ :: s, h => by simp [Flips.len h.2]
  | [], _ :: _, h => h.elim
  | _ :: _, [], h => h.elim
theorem Flips.of_get : ∀ (l s : List Wire), s.length = l.length → (∀ (i : Nat) (x y : Wire), l[i]? = some x → s[i]? = some y → y = x ∨ y = x.flip) → Flips l s
  | [], [], _, _ => trivial
  | x :: r, y :: s, h, hg => ⟨hg 0 x y rfl rfl, Flips.of_get r s (by simpa using h) fun i a b ha hb => hg (i + 1) a b (by simpa using ha) (by simpa using hb)⟩
  | [], _ :: _, h, _ => by simp at h
  | _ :: _, [], h, _ => by simp at h
theorem Flips.ports : ∀ {l s : List Wire}, Flips l s → (portsOf s).Perm (portsOf l)
  | [], [], _ => List.Perm.refl _
  | x :: r, y :: s, h => by
    have ih := Flips.ports h.2
    have e1 : portsOf (x :: r) = (x.a, x.b) :: (x.c, x.d) :: portsOf r := rfl
    have e2 : portsOf (y :: s) = (y.a, y.b) :: (y.c, y.d) :: portsOf s := rfl
    rw [e1, e2]
    rcases h.1 with rfl | rfl
    · exact (ih.cons _).cons _
    · exact (List.Perm.swap _ _ _).trans ((ih.cons _).cons _)
  | [], _ :: _, h => h.elim
  | _ :: _, [], h => h.elim
theorem Flips.mem : ∀ {l s : List Wire}, Flips l s → ∀ y ∈ s, y ∈ l ∨ y.flip ∈ l
  | [], [], _, y, hy => by cases hy
  | x :: r, z :: s, h, y, hy => by
    rcases List.mem_cons.1 hy with rfl | hy
    · rcases h.1 with rfl | rfl
      · exact .inl (by simp)
      · exact .inr (List.mem_cons.2 (.inl rfl))
    · rcases Flips.mem h.2 y hy with h1 | h1
      · exact .inl (List.mem_cons_of_mem _ h1)
      · exact .inr (List.mem_cons_of_mem _ h1)
  | [], _ :: _, h, _, _ => h.elim
  | _ :: _, [], h, _, _ => h.elim
/-- The same wires in another order, some of them turned. -/
structure Turn (l s : List Wire) : Prop where
  len : s.length = l.length
  ports : (portsOf s).Perm (portsOf l)
  mem : ∀ y ∈ s, y ∈ l ∨ y.flip ∈ l
  back : ∀ y ∈ l, y ∈ s ∨ y.flip ∈ s
theorem Flips.symm : ∀ {l s : List Wire}, Flips l s → Flips s l
  | [], [], _ => trivial
  | x :: r, y :: s, h => ⟨by rcases h.1 with rfl | rfl <;> first | exact .inl rfl | exact .inr rfl, Flips.symm h.2⟩
  | [], _ :: _, h => h.elim
  | _ :: _, [], h => h.elim
theorem Turn.of {l s : List Wire} (h : Flips l.reverse s) : Turn l s := by
  refine ⟨by rw [h.len]; simp, h.ports.trans ?_, fun y hy => by simpa using h.mem y hy, fun y hy => h.symm.mem y (by simpa using hy)⟩
  exact (List.reverse_perm l).flatMap_right _
theorem Turn.symm {l s : List Wire} (h : Turn l s) : Turn s l := ⟨h.len.symm, h.ports.symm, h.back, h.mem⟩
theorem flip_flip (x : Wire) : x.flip.flip = x := rfl
/-- Where no port is used twice the wires alone say which ports are joined. -/
theorem peerL_iff {ws : List Wire} (hd : (portsOf ws).Nodup) (a b : Int) (q : Pt) : peerL ws a b = some q ↔ ∃ x, (x ∈ ws ∨ x.flip ∈ ws) ∧ (x.a, x.b) = (a, b) ∧ (x.c, x.d) = q := by
  constructor
  · intro h
    clear hd
    induction ws with
    | nil => cases h
    | cons y r ih =>
      simp only [peerL] at h
      split at h
      · rename_i hab
        injection h with h
        exact ⟨y, .inl (by simp), by rw [hab.1, hab.2], h⟩
      · split at h
        · rename_i hcd
          injection h with h
          refine ⟨y.flip, .inr (by rw [flip_flip]; simp), ?_, h⟩
          show (y.c, y.d) = _
          rw [hcd.1, hcd.2]
        · obtain ⟨x, h1, h2, h3⟩ := ih h
          exact ⟨x, h1.imp (List.mem_cons_of_mem _) (List.mem_cons_of_mem _), h2, h3⟩
  · rintro ⟨x, h1, h2, rfl⟩
    injection h2 with e1 e2
    subst e1 e2
    rcases h1 with h1 | h1
    · exact peerL_wire hd h1
    · exact peerL_sym hd (peerL_wire hd h1)
theorem Turn.peer {l s : List Wire} (h : Turn l s) (hd : (portsOf l).Nodup) (a b : Int) : peerL s a b = peerL l a b := by
  have hd2 : (portsOf s).Nodup := h.ports.nodup_iff.2 hd
  have key : ∀ q, peerL s a b = some q ↔ peerL l a b = some q := fun q => by
    rw [peerL_iff hd2, peerL_iff hd]
    constructor
    · rintro ⟨x, h1, h2⟩
      refine ⟨x, ?_, h2⟩
      rcases h1 with h1 | h1
      · exact h.mem x h1
      · rcases h.mem _ h1 with h3 | h3
        · exact .inr h3
        · exact .inl (by rw [flip_flip] at h3; exact h3)
    · rintro ⟨x, h1, h2⟩
      refine ⟨x, ?_, h2⟩
      rcases h1 with h1 | h1
      · exact h.back x h1
      · rcases h.back _ h1 with h3 | h3
        · exact .inr h3
        · exact .inl (by rw [flip_flip] at h3; exact h3)
  exact Option.ext key
theorem ordStep_congr {ws ws2 : List Wire} (h : ∀ a b, peerL ws2 a b = peerL ws a b) (n : Int) (l : List Pt) (k : Nat) : ordStep ws2 n l k = ordStep ws n l k := by
  simp only [ordStep, h]
theorem ordNode_congr {ws ws2 : List Wire} (h : ∀ a b, peerL ws2 a b = peerL ws a b) (n : Int) (l : List Pt) : ordNode ws2 n l = ordNode ws n l := by
  have e : ordStep ws2 n = ordStep ws n := funext fun l => funext fun k => ordStep_congr h n l k
  rw [ordNode, ordNode, e]
theorem ordL_congr {ws ws2 : List Wire} (h : ∀ a b, peerL ws2 a b = peerL ws a b) : ∀ (f : Nat) (l : List Pt) (i : Nat), ordL ws2 f l i = ordL ws f l i
  | 0, _, _ => rfl
  | f + 1, l, i => by
    simp only [ordL]
    split
    · rename_i p hp
      rw [ordNode_congr h, ordL_congr h]
    · rfl
theorem Turn.may {l s : List Wire} (h : Turn l s) (N hn hl : Int) : mayB N s hn hl = mayB N l hn hl := by
  have hp : portsOk N ((hn, hl) :: portsOf s) = portsOk N ((hn, hl) :: portsOf l) := by
    rw [Bool.eq_iff_iff, portsOk_iff, portsOk_iff]
    have hc := h.ports.cons (hn, hl)
    exact ⟨fun ⟨h1, h2⟩ => ⟨fun p hp => h1 p (hc.mem_iff.2 hp), hc.nodup_iff.1 h2⟩, fun ⟨h1, h2⟩ => ⟨fun p hp => h1 p (hc.mem_iff.1 hp), hc.nodup_iff.2 h2⟩⟩
  have hdif : diffAll s = diffAll l := by
    rw [Bool.eq_iff_iff]
    simp only [diffAll, List.all_eq_true, bne_iff_ne, ne_eq]
    constructor
    · intro h1 x hx
      rcases h.back x hx with h2 | h2
      · exact h1 x h2
      · have := h1 _ h2; exact fun e => this e.symm
    · intro h1 x hx
      rcases h.mem x hx with h2 | h2
      · exact h1 x h2
      · have := h1 _ h2; exact fun e => this e.symm
  cases hb : portsOk N ((hn, hl) :: portsOf l)
  · simp only [mayB, hp, hb, Bool.and_false, Bool.false_and]
  · have hd : (portsOf l).Nodup := by
      have := ((portsOk_iff N _).1 hb).2
      rw [List.nodup_cons] at this
      exact this.2
    have ho : orderOf s hn hl = orderOf l hn hl := ordL_congr (h.peer hd) _ _ _
    simp only [mayB, hp, hdif, ho, h.len]
theorem Turn.peerR {l s : List Wire} (h : Turn l s) (N hn hl a b : Int) : rpeerOf N s hn hl a b = rpeerOf N l hn hl a b := by
  rw [rpeerOf, rpeerOf, h.may]
  cases hm : mayB N l hn hl
  · rfl
  · simp only [if_true]
    exact h.peer (may_nodup hm) a b


/-- The network with other wires. -/
def TN.with_ (t : TN) (A : Option Addr) (c : Nat) (ws : List Wire) : TN := ⟨t.N, A, c, ws, t.hn, t.hl⟩
def turnW (ws : List Wire) : List Wire := (ws.map Wire.flip).reverse
theorem turnW_turn (ws : List Wire) : Turn ws (turnW ws) := by
  refine Turn.of (Flips.of_get _ _ (by simp [turnW]) fun i x y hx hy => .inr ?_)
  unfold turnW at hy
  rw [← List.map_reverse, List.getElem?_map, hx] at hy
  injection hy with hy
  exact hy.symm
theorem freeN_turn {t : TN} {s : List Wire} (h : Turn t.ws s) (A : Option Addr) (c : Nat) (tk : Pt → Bool) (fr dn : Int) : ∀ n : Nat, freeN (t.with_ A c s) tk fr dn n = freeN t tk fr dn n
  | 0 => rfl
  | n + 1 => by
    have e : rpeerOf (t.with_ A c s).N (t.with_ A c s).ws (t.with_ A c s).hn (t.with_ A c s).hl fr (3 - (n : Int)) = rpeerOf t.N t.ws t.hn t.hl fr (3 - (n : Int)) := h.peerR _ _ _ _ _
    rw [freeN, freeN, e, freeN_turn h A c tk fr dn n]
theorem hostQ_turn (k : KK) (t : TN) (A : Option Addr) (c : Nat) (s : List Wire) (x : Int × Int × Int) : hostQ k (t.with_ A c s) x = hostQ k t x := rfl
theorem nodeI_turn (k : KK) (t : TN) (A : Option Addr) (c : Nat) (s : List Wire) (b : Nat) : nodeI k (t.with_ A c s) b = nodeI k t b := rfl
theorem pickP_turn {t : TN} {s : List Wire} (h : Turn t.ws s) (k : KK) (A : Option Addr) (c : Nat) (tk : Pt → Bool) (x : Int × Int × Int) : pickP k (t.with_ A c s) tk x = pickP k t tk x := by
  unfold pickP
  rw [hostQ_turn, nodeI_turn, nodeI_turn, freeN_turn h]
theorem makeN_turn {t : TN} {s : List Wire} (h : Turn t.ws s) (k : KK) (A : Option Addr) (c : Nat) (l : List (Int × Int × Int)) : ∀ n : Nat, makeN k (t.with_ A c s) l n = makeN k t l n
  | 0 => rfl
  | n + 1 => by
    rw [makeN, makeN, makeN_turn h k A c l n]
    simp only [pickP_turn h]
theorem makeQ_turn {t : TN} {s : List Wire} (h : Turn t.ws s) (k : KK) (A : Option Addr) (c : Nat) : makeQ k (t.with_ A c s) = makeQ k t := by
  have e : mayB (t.with_ A c s).N (t.with_ A c s).ws (t.with_ A c s).hn (t.with_ A c s).hl = mayB t.N t.ws t.hn t.hl := h.may _ _ _
  unfold makeQ
  rw [e, makeN_turn h]
theorem wantP_turn {t : TN} {s : List Wire} (h : Turn t.ws s) (k : KK) (A : Option Addr) (c : Nat) (x : Int × Int × Int) (y : Plc) : wantP k (t.with_ A c s) x y = wantP k t x y := by
  have e : rpeerOf (t.with_ A c s).N (t.with_ A c s).ws (t.with_ A c s).hn (t.with_ A c s).hl y.o.1 y.o.2 = rpeerOf t.N t.ws t.hn t.hl y.o.1 y.o.2 := h.peerR _ _ _ _ _
  unfold wantP
  rw [hostQ_turn, e]
  rfl
theorem checkN_turn {t : TN} {s : List Wire} (h : Turn t.ws s) (k : KK) (A : Option Addr) (c : Nat) (bl : List (Int × Int × Int)) (l : List Plc) : ∀ n : Nat, checkN k (t.with_ A c s) bl l n = checkN k t bl l n
  | 0 => rfl
  | n + 1 => by
    rw [checkN, checkN, checkN_turn h k A c bl l n]
    simp only [okC, wantP_turn h]
theorem checkQ_turn {t : TN} {s : List Wire} (h : Turn t.ws s) (k : KK) (A : Option Addr) (c : Nat) (l : List Plc) : checkQ k (t.with_ A c s) l = checkQ k t l := by
  have e : mayB (t.with_ A c s).N (t.with_ A c s).ws (t.with_ A c s).hn (t.with_ A c s).hl = mayB t.N t.ws t.hn t.hl := h.may _ _ _
  unfold checkQ
  rw [e, checkN_turn h]
end Go.Proofs.Ytekamebpjjkifaa

/- The kernel and the network of the document's examples, in plain words. -/
namespace Go.Proofs.Ytekamebpjjkifaa
open Go.RowKit Go.Maps
set_option linter.unusedSimpArgs false
set_option linter.unusedVariables false

def fiveE : KE := ⟨1, 0, 0, 5, 0, none, 0, []⟩
def outP (A : Option Addr) (c : Int) : KP := ⟨6, c, 0, 1, none, 0, [], A, 1, [fiveE], none, 0, [], none, 0, []⟩
def inP (A : Option Addr) (c : Int) : KP := ⟨5, c, 0, 1, A, 1, [⟨0, none, 0, []⟩], none, 0, [], none, 0, [], none, 0, []⟩
def manyP (kind : Nat) (A : Option Addr) (c : Nat) (l : List KP) : KP := ⟨kind, 0, 0, 0, none, 0, [], none, 0, [], none, 0, [], A, c, l⟩
def smA (more : Bool) (f : Nat → Option Addr) : List KP := [outP (f 0) 2, outP (f 1) 3, outP (f 2) 1, inP (f 3) 4] ++ (if more then [outP (f 7) 5] else [])
def smB (more : Bool) (f : Nat → Option Addr) : List KP := [inP (f 4) 2, inP (f 5) 3, outP (f 6) 4] ++ (if more then [inP (f 8) 5] else [])
/-- The kernel; f: where its parts lie, c: how much room there is. -/
def smK (more : Bool) (f : Nat → Option Addr) (c : Nat → Nat) (procs : List Int) : KK :=
  ⟨f 9, c 0, [⟨1, 0⟩], f 10, c 1, [1, 2, 0, 0, 0, 0], manyP 10 (f 11) (c 2) [manyP 9 (f 12) (c 3) (smA more f), manyP 9 (f 13) (c 4) (smB more f)], f 14, c 5, procs⟩
def smT (A : Option Addr) (c : Nat) : TN := ⟨2, A, c, [⟨0, 2, 1, 0⟩, ⟨0, 1, 1, 3⟩], 0, 0⟩
def smL : List Plc := [⟨1, (0, 0), (-1, 0)⟩, ⟨2, (0, 1), (1, 3)⟩, ⟨3, (0, 2), (1, 0)⟩, ⟨4, (1, 0), (0, 2)⟩]
set_option maxRecDepth 100000
theorem sm_may (more : Bool) (f : Nat → Option Addr) (c : Nat → Nat) : mayK (smK more f c [0, 1]) = true := by cases more <;> kernel_rfl
theorem sm_may2 (f : Nat → Option Addr) (c : Nat → Nat) : mayK (smK false f c [1, 0]) = true := by kernel_rfl
theorem sm_between (f : Nat → Option Addr) (c : Nat → Nat) : betweenQ (smK false f c [0, 1]) = (0, [(1, 0, -1), (2, 0, 1), (3, 0, 1), (4, 1, 0)]) := by kernel_rfl
theorem sm_make (f : Nat → Option Addr) (c : Nat → Nat) (A : Option Addr) (c' : Nat) : makeQ (smK false f c [0, 1]) (smT A c') = (0, smL) := by kernel_rfl
theorem sm_more (f : Nat → Option Addr) (c : Nat → Nat) (A : Option Addr) (c' : Nat) : makeQ (smK true f c [0, 1]) (smT A c') = (400, []) := by kernel_rfl
theorem sm_turned (f : Nat → Option Addr) (c : Nat → Nat) (A : Option Addr) (c' : Nat) : makeQ (smK false f c [1, 0]) (smT A c') = (400, []) := by kernel_rfl
theorem sm_check (f : Nat → Option Addr) (c : Nat → Nat) (A : Option Addr) (c' : Nat) : checkQ (smK false f c [0, 1]) (smT A c') smL = true := by kernel_rfl
theorem sm_short (f : Nat → Option Addr) (c : Nat → Nat) (A : Option Addr) (c' : Nat) : checkQ (smK false f c [0, 1]) (smT A c') (smL.drop 1) = false := by kernel_rfl
end Go.Proofs.Ytekamebpjjkifaa

/- The parts of the examples' kernel, walked. -/
namespace Go.Proofs.Ytekamebpjjkifaa
open Go.RowKit
set_option linter.unusedSimpArgs false
set_option linter.unusedVariables false

/-- A process that lies in a world, and in every other one in which the blocks of S are the same. -/
def Fresh (S : Nat → Prop) (W : World) (p : KP) : Prop := ∀ W' : World, W.heap.size ≤ W'.heap.size → (∀ a : Addr, S a.block → a.block < W.heap.size → W'.cell? a = W.cell? a) → p.In W' W.heap.size
theorem Fresh.call {S : Nat → Prop} {W W1 : World} {p : KP} (h : Fresh S W p) (hb : Below W.heap.size W W1) : Fresh S W1 p := fun W' hz hc =>
  (h W' (Nat.le_trans hb.size hz) fun a ha hl => (hc a ha (Nat.lt_of_lt_of_le hl hb.size)).trans (hb.cell hl)).more hb.size
theorem Fresh.to_ {S S' : Nat → Prop} {W : World} {p : KP} (h : Fresh S W p) (hS : ∀ b, b < W.heap.size → S b → S' b) : Fresh S' W p := fun W' hz hc =>
  h W' hz fun a ha hl => hc a (hS _ hl ha) hl
theorem Fresh.keep {S : Nat → Prop} {W W1 : World} {p : KP} (h : Fresh S W p) (hz : W.heap.size ≤ W1.heap.size) (hk : ∀ a : Addr, S a.block → a.block < W.heap.size → W1.cell? a = W.cell? a) : Fresh S W1 p := fun W' hz' hc =>
  (h W' (Nat.le_trans hz hz') fun a ha hl => (hc a ha (Nat.lt_of_lt_of_le hl hz)).trans (hk a ha hl)).more hz
theorem Fresh.in_ {S : Nat → Prop} {W : World} {p : KP} (h : Fresh S W p) : p.In W W.heap.size := h W (Nat.le_refl _) fun _ _ _ => rfl
theorem reads_of {w w' : World} {B size n g : Nat} {xs : List Value} (h : Reads w B size (some ⟨g, 0, none⟩) n xs) (hk : ∀ a : Addr, a.block = g → w'.cell? a = w.cell? a) : Reads w' B size (some ⟨g, 0, none⟩) n xs :=
  ⟨h.1, fun hn => by
    obtain ⟨ad, e, hb, hc⟩ := h.2 hn
    refine ⟨ad, e, hb, fun j u hu => (hk _ ?_).trans (hc j u hu)⟩
    rw [block_of_add]
    injection e with e
    rw [← e]⟩
/-- A process that is answered. -/
def RetKP (mk : Option Addr → KP) (w : World) (e : Ending) (w' : World) : Prop :=
  Below w.heap.size w w' ∧ ∃ A : Option Addr, e = .returned (.agg (mk A).cells) ∧ Fresh (fun b => w.heap.size ≤ b) w' (mk A)
theorem kexpr_info : (Try.prog.info? 99).map (fun i => (i.zero, i.size, i.bytes)) = some (some (.agg #[.int .u8 0, .int .u8 0, .int .u8 0, .int .i32 0, .int .i64 0, .slice none 0 0]), 6, 40) := by kernel_rfl
theorem kplace_info : (Try.prog.info? 101).map (fun i => (i.zero, i.size, i.bytes)) = some (some (.agg #[.int .i64 0, .slice none 0 0]), 2, 32) := by kernel_rfl
theorem kproc_info : (Try.prog.info? 31).map (fun i => (i.zero, i.size, i.bytes)) = some (some (.agg #[.int .u8 0, .int .i64 0, .int .i64 0, .int .u8 0, .slice none 0 0, .slice none 0 0, .slice none 0 0, .slice none 0 0]), 8, 128) := by kernel_rfl
theorem kproc_size : (Try.prog.info? 31).map (·.size) = some 8 := by
  obtain ⟨i, hi, -, hs, -⟩ := info_parts kproc_info
  rw [hi]
  simp [hs]
theorem reads_new {w : World} {n size : Nat} (cs : Array Value) (T : TypeId) (h : cs.size = n * size) : Reads (w.alloc (.cells cs T)) (w.heap.size + 1) size (some ⟨w.heap.size, 0, none⟩) n cs.toList :=
  ⟨by simpa using h, fun _ => ⟨_, rfl, by simp, fun j u hu => by
    have hb := (Blk.new w T cs).cell j
    rw [Array.getElem?_toList] at hu
    rw [hu] at hb
    have e : (Addr.add ⟨w.heap.size, 0, none⟩ j) = ⟨w.heap.size, j, none⟩ := by unfold Addr.add; by_cases hj : j = 0 <;> simp [hj]
    rw [e]
    exact hb⟩⟩
theorem five_in (w : World) (B : Nat) : fiveE.In w B := by
  unfold KE.In
  rw [KE.all_iff]
  refine ⟨⟨⟨by decide, by decide, by decide, by unfold i32ok; decide, by unfold i64ok; decide, by unfold lenOk; decide⟩, Reads.none_⟩, fun x hx => by cases hx⟩
theorem i64_0 : i64ok 0 := ⟨by decide, by decide⟩
theorem le255 {n : Nat} (h : Nat.ble n 255 = true) : n ≤ 255 := Nat.le_of_ble_eq_true h
theorem len_ok {α : Type} {l : List α} (h : Nat.ble l.length 140737488355328 = true) : lenOk l := Nat.le_of_ble_eq_true h
theorem outP_in {w : World} {B : Nat} {A : Option Addr} {c : Int} (hc : i64ok c) (h : Reads w B 6 A 1 (kesC [fiveE])) : (outP A c).In w B := by
  unfold KP.In
  rw [KP.all_iff]
  refine ⟨⟨⟨le255 rfl, hc, i64_0, le255 rfl, len_ok rfl, len_ok rfl⟩, ⟨len_ok rfl, Reads.none_, (fun x hx => by cases hx)⟩, ⟨len_ok rfl, h, fun x hx => ?_⟩, ⟨Reads.none_, (fun x hx => by cases hx)⟩, Reads.none_⟩, (fun x hx => by cases hx), (fun x hx => by cases hx)⟩
  obtain rfl := List.mem_singleton.1 hx
  exact five_in w B
theorem inP_in {w : World} {B : Nat} {A : Option Addr} {c : Int} (hc : i64ok c) (h : Reads w B 2 A 1 (kplsC [⟨0, none, 0, []⟩])) : (inP A c).In w B := by
  unfold KP.In
  rw [KP.all_iff]
  refine ⟨⟨⟨le255 rfl, hc, i64_0, le255 rfl, len_ok rfl, len_ok rfl⟩, ⟨len_ok rfl, h, fun x hx => ?_⟩, ⟨len_ok rfl, Reads.none_, (fun x hx => by cases hx)⟩, ⟨Reads.none_, (fun x hx => by cases hx)⟩, Reads.none_⟩, (fun x hx => by cases hx), (fun x hx => by cases hx)⟩
  obtain rfl := List.mem_singleton.1 hx
  exact ⟨i64_0, len_ok rfl, Reads.none_, (fun x hx => by cases hx)⟩
theorem lOut (c : Int) (hc : i64ok c) (w : World) : Calls Try.prog 31 #[.int .i64 c] w (RetKP (fun A => outP A c) w) := by
  obtain ⟨i0, hi0, hz0, hz1, hz2⟩ := info_parts kexpr_info
  go_enter Try.func31, Try.ntmps31
  go_wp2
  refine bodyPost_ret (v := .agg (outP (some ⟨w.heap.size + 1, 0, none⟩) c).cells) (results_cell_row rfl _ _ w.heap.size _ _ (0, 0) _ rfl ((heap_alloc_old _ _ (r := w.heap.size) (by simp)).trans (heap_alloc_new _ _)) Try.underlying31 rfl kproc_size) rfl ⟨((Below.refl _ _).alloc (Nat.le_refl _) _).alloc (by simp) _, _, rfl, fun W' hz hcc => ?_⟩
  have := reads_new (w := w.alloc (.cells (outP (some ⟨w.heap.size + 1, 0, none⟩) c).cells 31)) (n := 1) (size := 6) fiveE.cells 99 rfl
  simp only [World.size_alloc] at this ⊢
  exact outP_in hc (reads_of this fun a ha => hcc a (by rw [ha]; omega) (by rw [ha]; simp))
theorem lIn (c : Int) (hc : i64ok c) (w : World) : Calls Try.prog 32 #[.int .i64 c] w (RetKP (fun A => inP A c) w) := by
  obtain ⟨i0, hi0, hz0, hz1, hz2⟩ := info_parts kplace_info
  go_enter Try.func32, Try.ntmps32
  go_wp2
  refine bodyPost_ret (v := .agg (inP (some ⟨w.heap.size + 1, 0, none⟩) c).cells) (results_cell_row rfl _ _ w.heap.size _ _ (0, 0) _ rfl ((heap_alloc_old _ _ (r := w.heap.size) (by simp)).trans (heap_alloc_new _ _)) Try.underlying31 rfl kproc_size) rfl ⟨((Below.refl _ _).alloc (Nat.le_refl _) _).alloc (by simp) _, _, rfl, fun W' hz hcc => ?_⟩
  have := reads_new (w := w.alloc (.cells (inP (some ⟨w.heap.size + 1, 0, none⟩) c).cells 31)) (n := 1) (size := 2) #[.int .i64 0, .slice none 0 0] 101 rfl
  simp only [World.size_alloc] at this ⊢
  exact inP_in hc (reads_of this fun a ha => hcc a (by rw [ha]; omega) (by rw [ha]; simp))
end Go.Proofs.Ytekamebpjjkifaa
