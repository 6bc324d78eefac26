/- Texts that belong together, joined: what each one holds is told ahead of it. -/
import Derived.Test.YtbefmlioampgcaaGreatDoorHK4
import Derived.Lib.ConvBytes
import Derived.Test.YtbefmlioampgcaaGreatDoorHK1
import Derived.Deep.Quiet
set_option linter.unusedVariables false
set_option linter.unusedSimpArgs false
/- A label's form, walked in the program. -/
namespace Go.Proofs.YtbefmlioampgcaaGreatDoor
open Go.RowKit Go.Shelf

/-- A byte that fits a label at its place. -/
def fitB (i : Nat) (c : UInt8) : Bool := letterB c || (!(i == 0) && otherB c)
theorem conv_bytes (S : ByteArray) (w : World) : (convert 9 133 (.string S)).run Tryz.prog w = .ok (.slice (some ⟨w.heap.size, 0, none⟩) S.size (grownCap w S.size 0 5)) (Lib.bytesWorld w 5 S) :=
  Lib.run_convert_string_bytes w _ _ _ S Tryz.underlying9 Tryz.underlying133 Tryz.underlying5
theorem letter_or (c : UInt8) : (97 ≤ bits BinOp.or .u8 (c.toNat : Int) 32 ∧ bits BinOp.or .u8 (c.toNat : Int) 32 ≤ 122 ∧ letterB c = true) ∨ (¬ 97 ≤ bits BinOp.or .u8 (c.toNat : Int) 32 ∧ letterB c = false) ∨
    (97 ≤ bits BinOp.or .u8 (c.toNat : Int) 32 ∧ ¬ bits BinOp.or .u8 (c.toNat : Int) 32 ≤ 122 ∧ letterB c = false) := by
  have h : ∀ n : Nat, n < 256 → ((97 ≤ bits BinOp.or .u8 (n : Int) 32 ∧ bits BinOp.or .u8 (n : Int) 32 ≤ 122 ∧ letterB (UInt8.ofNat n) = true) ∨ (¬ 97 ≤ bits BinOp.or .u8 (n : Int) 32 ∧ letterB (UInt8.ofNat n) = false) ∨
    (97 ≤ bits BinOp.or .u8 (n : Int) 32 ∧ ¬ bits BinOp.or .u8 (n : Int) 32 ≤ 122 ∧ letterB (UInt8.ofNat n) = false)) := by decide +kernel
  have := h c.toNat c.toNat_lt_size
  rwa [UInt8.ofNat_toNat] at this
theorem label_no {l : List UInt8} {i : Nat} {c : UInt8} (h : l[i]? = some c) (hf : fitB i c = false) : labelB l = false := by
  cases l with
  | nil => rfl
  | cons x r =>
    cases i with
    | zero =>
      simp at h; subst h
      simp [fitB] at hf
      simp [labelB, hf]
    | succ i =>
      have hm : c ∈ r := List.mem_of_getElem? (by simpa using h)
      have hx : r.all (fun c => letterB c || otherB c) = false := by
        rw [List.all_eq_false]
        exact ⟨c, hm, by simp [fitB] at hf; simp [hf]⟩
      simp [labelB, hx]
theorem label_end {S : ByteArray} (h : ∀ j c, j < S.size → S.data.toList[j]? = some c → fitB j c = true) : labelB S.data.toList = (!(S.size == 0) && decide (S.size ≤ 32)) := by
  have hsz : S.data.toList.length = S.size := by rw [Array.length_toList]; rfl
  rw [← hsz] at h ⊢
  generalize S.data.toList = l at *
  cases l with
  | nil => rfl
  | cons x r =>
    have h1 := h 0 x (by simp) rfl
    have h2 : r.all (fun c => letterB c || otherB c) = true := by
      rw [List.all_eq_true]
      intro c hc
      obtain ⟨j, hj⟩ := List.getElem?_of_mem hc
      have hl : j < r.length := by obtain ⟨h, _⟩ := List.getElem?_eq_some_iff.1 hj; exact h
      have := h (j + 1) c (by simp; omega) (by simpa using hj)
      simpa [fitB] using this
    simp [fitB] at h1
    simp [labelB, h1, h2]
theorem bytes_below (w : World) (S : ByteArray) : Below w.heap.size w (Lib.bytesWorld w 5 S) := by
  refine ⟨rfl, rfl, rfl, ?_, fun k hk => Lib.bytesWorld_at_old w _ S k hk⟩
  rw [Lib.bytesWorld_size]; omega
set_option maxRecDepth 100000 in
theorem iLabel (S : ByteArray) (hs : S.size ≤ 281474976710656) (w : World) : Calls Tryz.prog 91 #[.string S] w (RetV (.bool (labelB S.data.toList)) w) := by
  have hcv := conv_bytes S w
  go_enter Tryz.func91, Tryz.ntmps91
  go_wp2
  obtain ⟨W, hW⟩ : ∃ W, Lib.bytesWorld w 5 S = W := ⟨_, rfl⟩
  have hcell : ∀ j, j < S.size → W.cell? ⟨w.heap.size, j, none⟩ = some (.int .u8 (S.data.toList.getD j 0).toNat) := fun j hj => hW ▸ Lib.bytesWorld_cell w _ S j hj
  have hkB : Below w.heap.size w W := by rw [← hW]; exact bytes_below w S
  have HC := Lib.hid hcell
  rw [hW]
  clear hW hcell hcv
  have HS := Lib.hid hs
  go_loopw [9] (fun p wr => ∃ i : Nat, i ≤ S.size ∧ p = .int .i64 (i : Int) ∧ Hid (∀ j c, j < i → S.data.toList[j]? = some c → fitB j c = true) ∧ wr = W) (fun p _ => S.size - (intOf p).toNat)
  case atStart => exact ⟨0, by omega, rfl, Lib.hid (by intro j c h; omega), rfl⟩
  case round =>
    obtain ⟨i, hi, rfl, Hi, rfl⟩ := hrel
    by_cases hlt : i < S.size
    · have hltI : (i : Int) < S.size := by omega
      have c0 := HC.out i hlt
      generalize hc : S.data.toList.getD i 0 = c at c0
      have hm := letter_or c
      have hcg : S.data.toList[i]? = some c := by
        have : i < S.data.toList.length := by simpa using hlt
        rw [List.getElem?_eq_getElem this, ← hc, List.getD_eq_getElem?_getD, List.getElem?_eq_getElem this]; rfl
      have HG := Lib.hid hcg
      have w1 : IntKind.i64.wrap ((i : Int) + 1) = (i : Int) + 1 := IntWalk.i64_in _ (by have := HS.out; omega)
      clear hc hcg hs
      generalize hmm : bits BinOp.or .u8 (c.toNat : Int) 32 = m at hm
      have on : fitB i c = true → ∀ j d, j < i + 1 → S.data.toList[j]? = some d → fitB j d = true := by
        intro hf j d hj hd
        by_cases h : j = i
        · subst h; rw [HG.out] at hd; injection hd with hd; subst hd; exact hf
        · exact Hi.out j d (by omega) hd
      have no : fitB i c = false → labelB S.data.toList = false := fun hf => label_no HG.out hf
      have ON := Lib.hid on
      have NO := Lib.hid no
      clear on no
      rcases hm with ⟨h1, h2, h3⟩ | ⟨h1, h3⟩ | ⟨h1, h2, h3⟩
      · go_wp2
        go_roundw
        case rel => exact ⟨i + 1, by omega, by go_num, Lib.hid (ON.out (by simp [fitB, h3])), trivial⟩
        case measure => simp [intOf]; omega
      all_goals
        by_cases hi0 : i = 0
        · subst hi0
          go_wp2
          refine bodyPost_ret (v := .bool false) (by simp [results, Tryz.results91, go_sem]) rfl ⟨by rw [NO.out (by simp [fitB, h3])], hkB⟩
        have hi1 : ((i : Int) == 0) = false := by simpa using hi0
        by_cases h46 : (c.toNat : Int) = 46
        · have h46b : ((c.toNat : Int) != 46) = false := by simpa using h46
          go_wp2
          go_roundw
          case rel => exact ⟨i + 1, by omega, by go_num, Lib.hid (ON.out (by simp [fitB, h3, hi0, otherB]; omega)), trivial⟩
          case measure => simp [intOf]; omega
        have h46b : ((c.toNat : Int) != 46) = true := by simpa using h46
        by_cases h48 : (c.toNat : Int) < 48
        · go_wp2
          refine bodyPost_ret (v := .bool false) (by simp [results, Tryz.results91, go_sem]) rfl ⟨by rw [NO.out (by simp [fitB, h3, hi0, otherB]; omega)], hkB⟩
        by_cases h57 : 57 < (c.toNat : Int)
        · go_wp2
          refine bodyPost_ret (v := .bool false) (by simp [results, Tryz.results91, go_sem]) rfl ⟨by rw [NO.out (by simp [fitB, h3, hi0, otherB]; omega)], hkB⟩
        go_wp2
        go_roundw
        case rel => exact ⟨i + 1, by omega, by go_num, Lib.hid (ON.out (by simp [fitB, h3, hi0, otherB]; omega)), trivial⟩
        case measure => simp [intOf]; omega
    · have hltI : ¬ (i : Int) < S.size := by omega
      obtain rfl : i = S.size := by omega
      have hend := label_end (S := S) Hi.out
      have HE := Lib.hid hend
      clear hend Hi
      by_cases h0 : S.size = 0
      · obtain rfl : S = ⟨#[]⟩ := by
          rcases S with ⟨d⟩
          have : d.size = 0 := h0
          rw [Array.size_eq_zero_iff.1 this]
        go_wp2
        refine bodyPost_ret (v := .bool false) (by simp [results, Tryz.results91, go_sem]) rfl ⟨rfl, hkB⟩
      · have hE : S.toList.isEmpty = false := by
          rw [ByteArray.toList_eq, List.isEmpty_eq_false_iff]
          intro e
          have : S.data.size = 0 := by rw [← Array.length_toList, e]; rfl
          exact h0 this
        have hlab : labelB S.data.toList = decide ((S.size : Int) ≤ 32) := by
          rw [HE.out]
          have h1 : (S.size == 0) = false := by simpa using h0
          rw [h1]
          have h2 : ((S.size : Int) ≤ 32) = (S.size ≤ 32) := by rw [eq_iff_iff]; omega
          simp [h2]
        have HL := Lib.hid hlab
        clear hlab HE
        go_wp2
        refine bodyPost_ret (v := .bool (decide ((S.size : Int) ≤ 32))) (by simp [results, Tryz.results91, go_sem]) rfl ⟨by rw [HL.out], hkB⟩
end Go.Proofs.YtbefmlioampgcaaGreatDoor

/- A drawn region whose operations' values are fixed ahead: each operation is looked at once, whatever order is drawn. -/
namespace Go.Proofs.YtbefmlioampgcaaGreatDoor
open Go.RowKit
set_option linter.unusedVariables false
set_option linter.unusedSimpArgs false

section
variable {P : Program} {ops : Array Oper} {Q : Exit → Act → World → Prop}

/-- What an act is when the operations of L have come up, each with its value. -/
structure Filled (ops : Array Oper) (V : Nat → Value) (a0 : Act) (L : Nat → Bool) (a : Act) : Prop where
  hit : ∀ (i : Nat) (o : Oper) (d : Nat), ops[i]? = some o → o.dst = some d → L i = true → a.tmps[d]? = some (V i)
  miss : ∀ k, (∀ (i : Nat) (o : Oper), ops[i]? = some o → L i = true → o.dst ≠ some k) → a.tmps[k]? = a0.tmps[k]?
  defers : a.defers = a0.defers
  size : a.tmps.size = a0.tmps.size

/-- An operation leaves v, and a world of which R holds. -/
def LeavesV (P : Program) (o : Oper) (v : Value) (a : Act) (w : World) (R : World → Prop) : Prop :=
  ∀ (K : Act → World → Prop) (Q : Exit → Act → World → Prop), (∀ w', R w' → K (a.put o.dst v) w') → o.wp P a w K Q

/-- The frame's shape: plain operations, edges to the front, slots apart and in the frame. -/
structure Apart (ops : Array Oper) (n : Nat) : Prop where
  plain : ∀ (i : Nat) (o : Oper), ops[i]? = some o → o.guard = none
  back : ∀ (i : Nat) (o : Oper), ops[i]? = some o → ∀ e ∈ o.after, e.on < i
  inside : ∀ (i : Nat) (o : Oper) (d : Nat), ops[i]? = some o → o.dst = some d → d < n
  one : ∀ (i j : Nat) (o o' : Oper) (d : Nat), ops[i]? = some o → ops[j]? = some o' → o.dst = some d → o'.dst = some d → i = j

def upd (L : Nat → Bool) (i : Nat) : Nat → Bool := fun j => if j = i then true else L j
theorem put_get (a : Act) (d : Nat) (v : Value) (k : Nat) : (a.put (some d) v).tmps[k]? = if k = d ∧ d < a.tmps.size then some v else a.tmps[k]? := by
  simp only [Act.put, Array.getElem?_setIfInBounds]
  by_cases h : d = k
  · subst h
    by_cases h2 : d < a.tmps.size
    · simp [h2]
    · simp [h2]
  · rw [if_neg h, if_neg (fun h2 => h h2.1.symm)]
theorem Filled.put {V : Nat → Value} {a0 a : Act} {L : Nat → Bool} (hA : Apart ops a0.tmps.size) (h : Filled ops V a0 L a) {i : Nat} {o : Oper} (hi : ops[i]? = some o) : Filled ops V a0 (upd L i) (a.put o.dst (V i)) := by
  cases hd : o.dst with
  | none =>
    refine ⟨fun j o' d hj hd' hL => ?_, fun k hk => h.miss k fun j o' hj hL => hk j o' hj ?_, h.defers, h.size⟩
    · by_cases hji : j = i
      · subst hji; rw [hi] at hj; cases hj; rw [hd] at hd'; cases hd'
      · exact h.hit j o' d hj hd' (by simpa [upd, hji] using hL)
    · simp only [upd]; split <;> first | rfl | exact hL
  | some d =>
    have hds := hA.inside i o d hi hd
    refine ⟨fun j o' d' hj hd' hL => ?_, fun k hk => ?_, h.defers, by simp [Act.put, h.size]⟩
    · rw [put_get]
      by_cases hji : j = i
      · subst hji; rw [hi] at hj; cases hj; rw [hd] at hd'; cases hd'
        rw [if_pos ⟨rfl, by rw [h.size]; exact hds⟩]
      · rw [if_neg (fun hc => hji (hA.one j i o' o d' hj hi hd' (by rw [hd, hc.1])))]
        exact h.hit j o' d' hj hd' (by simpa [upd, hji] using hL)
    · rw [put_get, if_neg (fun hc => hk i o hi (by simp [upd]) (by rw [hd, hc.1]))]
      exact h.miss k fun j o' hj hL => hk j o' hj (by simp only [upd]; split <;> first | rfl | exact hL)
theorem Filled.same {V : Nat → Value} {a0 a b : Act} {L : Nat → Bool} (h : Filled ops V a0 L a) (h' : Filled ops V a0 L b) : a = b := by
  obtain ⟨t, d⟩ := a
  obtain ⟨t', d'⟩ := b
  have e : t = t' := by
    apply Array.ext_getElem?
    intro k
    by_cases hk : ∃ (i : Nat) (o : Oper), ops[i]? = some o ∧ L i = true ∧ o.dst = some k
    · obtain ⟨i, o, hi, hL, hd⟩ := hk
      exact (h.hit i o k hi hd hL).trans (h'.hit i o k hi hd hL).symm
    · have hn : ∀ (i : Nat) (o : Oper), ops[i]? = some o → L i = true → o.dst ≠ some k := fun i o hi hL hd => hk ⟨i, o, hi, hL, hd⟩
      exact (h.miss k hn).trans (h'.miss k hn).symm
  subst e
  have e2 : d = d' := h.defers.trans h'.defers.symm
  rw [e2]
/-- All values in their slots. -/
def putAll (ops : Array Oper) (V : Nat → Value) : Nat → Act → Act
  | 0, a => a
  | n + 1, a => (putAll ops V n a).put ((ops[n]?).bind (·.dst)) (V n)
theorem putAll_filled {V : Nat → Value} {a0 : Act} (hA : Apart ops a0.tmps.size) : ∀ n, n ≤ ops.size → Filled ops V a0 (fun i => decide (i < n)) (putAll ops V n a0)
  | 0, _ => ⟨fun i o d _ _ h => by simp at h, fun _ _ => rfl, rfl, rfl⟩
  | n + 1, hn => by
    have h := putAll_filled (V := V) hA n (by omega)
    have hi : ops[n]? = some ops[n] := Array.getElem?_eq_getElem (by omega)
    have h2 := h.put hA hi
    have e : upd (fun i => decide (i < n)) n = fun i => decide (i < n + 1) := by
      funext j
      simp only [upd]
      by_cases hj : j = n
      · subst hj; simp
      · rw [if_neg hj]; simp; omega
    rw [e] at h2
    simp only [putAll, hi, Option.bind_some]
    exact h2

def listedF (l : Array Bool) : Nat → Bool := fun i => l.getD i true
theorem listedF_set {l : Array Bool} {i : Nat} (h : i < l.size) : listedF (l.setIfInBounds i true) = upd (listedF l) i := by
  funext j
  simp only [listedF, upd, Array.getD_eq_getD_getElem?, Array.getElem?_setIfInBounds]
  by_cases hj : i = j
  · subst hj; simp [h]
  · rw [if_neg hj, if_neg (Ne.symm hj)]
theorem ready_mem {md : Region.Mode} {l : Array Bool} {i : Nat} : i ∈ Region.ready md ops l ↔ ∃ o, ops[i]? = some o ∧ l.getD i true = false ∧ ∀ e ∈ o.after, Region.binds md e = true → l.getD e.on false = true := by
  simp only [Region.ready, List.mem_filter, List.mem_range, Bool.and_eq_true, Bool.not_eq_true']
  constructor
  · rintro ⟨h, h1, h2⟩
    refine ⟨ops[i], Array.getElem?_eq_getElem h, h1, ?_⟩
    rw [Array.getElem?_eq_getElem h] at h2
    simp only [Option.map_some, Option.getD_some, Array.all_eq_true_iff_forall_mem, Bool.or_eq_true, Bool.not_eq_true'] at h2
    intro e he hb
    rcases h2 e he with h3 | h3
    · rw [hb] at h3; cases h3
    · exact h3
  · rintro ⟨o, ho, h1, h2⟩
    refine ⟨(Array.getElem?_eq_some_iff.1 ho).1, h1, ?_⟩
    rw [ho]
    simp only [Option.map_some, Option.getD_some, Array.all_eq_true_iff_forall_mem, Bool.or_eq_true, Bool.not_eq_true']
    intro e he
    cases hb : Region.binds md e
    · exact .inl rfl
    · exact .inr (h2 e he hb)
theorem ready_none {md : Region.Mode} {l : Array Bool} {n : Nat} (hA : Apart ops n) (hl : l.size = ops.size) (h : Region.ready md ops l = []) : ∀ i, i < ops.size → l.getD i true = true := by
  intro i
  induction i using Nat.strongRecOn with
  | ind i ih =>
    intro hi
    cases hc : l.getD i true with
    | true => rfl
    | false =>
      exfalso
      have hm : i ∈ Region.ready md ops l := by
        refine ready_mem.2 ⟨ops[i], Array.getElem?_eq_getElem hi, hc, fun e he hb => ?_⟩
        have hlt := hA.back i ops[i] (Array.getElem?_eq_getElem hi) e he
        have := ih e.on hlt (by omega)
        simp only [Array.getD_eq_getD_getElem?] at this ⊢
        have hs : e.on < l.size := by omega
        rw [Array.getElem?_eq_getElem hs] at this ⊢
        exact this
      rw [h] at hm
      cases hm
/-- **Any order of a region whose values are fixed ahead.** -/
theorem wpAny_fixed {md : Region.Mode} {V : Nat → Value} {S : (Nat → Bool) → World → Prop} {a0 : Act} (hA : Apart ops a0.tmps.size)
    (hop : ∀ (i : Nat) (o : Oper) (L : Nat → Bool) (a : Act) (w : World), ops[i]? = some o → L i = false → (∀ e ∈ o.after, Region.binds md e = true → L e.on = true) → Filled ops V a0 L a → S L w → LeavesV P o (V i) a w (S (upd L i)))
    (hend : ∀ (L : Nat → Bool) (w : World), (∀ i, i < ops.size → L i = true) → S L w → Q .normal (putAll ops V ops.size a0) w) :
    ∀ (fuel : Nat) (l : Array Bool) (a : Act) (w : World), l.size = ops.size → (l.toList.count false ≤ fuel) → Filled ops V a0 (listedF l) a → S (listedF l) w → wpAny P md ops Q fuel l a w := by
  have hdone : ∀ (l : Array Bool) (a : Act) (w : World), l.size = ops.size → Filled ops V a0 (listedF l) a → S (listedF l) w → Region.ready md ops l = [] → Q .normal a w := by
    intro l a w hl hF hS hr
    have hall := ready_none hA hl hr
    have hF2 := putAll_filled (V := V) hA ops.size (Nat.le_refl _)
    have hF3 : Filled ops V a0 (listedF l) (putAll ops V ops.size a0) := by
      refine ⟨fun i o d hi hd _ => hF2.hit i o d hi hd (by simpa using (Array.getElem?_eq_some_iff.1 hi).1), fun k hk => hF2.miss k fun i o hi _ => hk i o hi (hall i (Array.getElem?_eq_some_iff.1 hi).1), hF2.defers, hF2.size⟩
    rw [hF.same hF3]
    exact hend (listedF l) w hall hS
  intro fuel
  induction fuel with
  | zero =>
    intro l a w hl hc hF hS
    have hr : Region.ready md ops l = [] := by
      apply List.eq_nil_iff_forall_not_mem.2
      intro i hi
      obtain ⟨o, ho, h1, -⟩ := ready_mem.1 hi
      have hi' : i < l.size := by rw [hl]; exact (Array.getElem?_eq_some_iff.1 ho).1
      have hm : false ∈ l.toList := by
        have : l[i] = false := by simpa [Array.getD_eq_getD_getElem?, Array.getElem?_eq_getElem hi'] using h1
        rw [← this]; exact Array.getElem_mem_toList hi'
      have := List.count_pos_iff.2 hm
      omega
    exact ⟨hr, hdone l a w hl hF hS hr⟩
  | succ fuel ih =>
    intro l a w hl hc hF hS
    refine ⟨hdone l a w hl hF hS, fun i hi => ?_⟩
    obtain ⟨o, ho, h1, h2⟩ := ready_mem.1 hi
    have hi' : i < l.size := by rw [hl]; exact (Array.getElem?_eq_some_iff.1 ho).1
    have hL2 : ∀ e ∈ o.after, Region.binds md e = true → listedF l e.on = true := by
      intro e he hb
      have h3 := h2 e he hb
      have hs : e.on < l.size := by have := hA.back i o ho e he; omega
      simp only [listedF, Array.getD_eq_getD_getElem?] at h3 ⊢
      rw [Array.getElem?_eq_getElem hs] at h3 ⊢
      exact h3
    unfold wpOp
    simp only [ho]
    have hw : Region.wanted o (yielded ops a.tmps) = true := by simp [Region.wanted, hA.plain i o ho]
    rw [if_pos hw]
    refine .inl (hop i o (listedF l) a w ho h1 hL2 hF hS _ _ fun w' hS' => ?_)
    have e := listedF_set hi'
    refine ih _ _ _ (by simpa using hl) ?_ (by rw [e]; exact hF.put hA ho) (by rw [e]; exact hS')
    have hf : l[i] = false := by simpa [Array.getD_eq_getD_getElem?, Array.getElem?_eq_getElem hi'] using h1
    have : (l.setIfInBounds i true).toList.count false + 1 = l.toList.count false := by
      have h0 : l.toList[i]'(by simpa using hi') = false := by simpa using hf
      have hp : 0 < l.toList.count false := List.count_pos_iff.2 (by rw [← h0]; exact List.getElem_mem _)
      have h5 := List.count_set (l := l.toList) (a := true) (b := false) (i := i) (by simpa using hi')
      rw [h0] at h5
      rw [Array.toList_setIfInBounds, h5]
      have e1 : (false == false) = true := rfl
      have e2 : (true == false) = false := rfl
      rw [e1, e2]
      simp only [if_true, Bool.false_eq_true, if_false]
      omega
    omega
end
end Go.Proofs.YtbefmlioampgcaaGreatDoor

/- A drawn region of quiet operations, one alloc and one last store: the text's order walked serves every order. -/
namespace Go.Proofs.YtbefmlioampgcaaGreatDoor
open Go.RowKit
set_option linter.unusedVariables false
set_option linter.unusedSimpArgs false

section
variable {P : Program} {Q : Exit → Act → World → Prop}

def depB (l : List Oper) (o : Oper) (t : Nat) : Bool :=
  (List.range l.length).all fun j => match l[j]? with
    | some o' => o'.dst != some t || o.after.any (fun e => e.on == j && Region.binds .any e)
    | none => true
def depsB (l : List Oper) (o : Oper) : Bool := o.op.operands.all fun x => match x with
  | .tmp t => depB l o t
  | _ => true
def selB (o : Oper) : Bool := match o.op with
  | .select _ _ => false
  | _ => true
def apartAt (l : List Oper) (n : Nat) (i : Nat) (o : Oper) : Bool :=
  o.guard.isNone && o.after.all (fun e => decide (e.on < i)) && (match o.dst with
    | some d => decide (d < n) && (List.range l.length).all (fun j => decide (j = i) || match l[j]? with
        | some o' => o'.dst != some d
        | none => true)
    | none => true) && depsB l o && selB o
def apartB (l : List Oper) (n : Nat) : Bool :=
  (List.range l.length).all fun i => match l[i]? with
    | some o => apartAt l n i o
    | none => true
theorem apartB_at {l : List Oper} {n i : Nat} {o : Oper} (h : apartB l n = true) (hi : l[i]? = some o) : apartAt l n i o = true := by
  have h1 := List.all_eq_true.1 h i (List.mem_range.2 (List.getElem?_eq_some_iff.1 hi).1)
  rw [hi] at h1
  exact h1
theorem apartB_spec {l : List Oper} {n : Nat} (h : apartB l n = true) : Apart l.toArray n := by
  refine ⟨fun i o hi => ?_, fun i o hi e he => ?_, fun i o d hi hd => ?_, fun i j o o' d hi hj hd hd' => ?_⟩
  all_goals
    rw [List.getElem?_toArray] at hi
    have h1 := apartB_at h hi
    simp only [apartAt, Bool.and_eq_true] at h1
    obtain ⟨⟨⟨⟨h1, h2⟩, h3⟩, h4⟩, h5⟩ := h1
  · simpa using h1
  · exact of_decide_eq_true (Array.all_eq_true_iff_forall_mem.1 h2 e he)
  · rw [hd] at h3
    simp only [Bool.and_eq_true] at h3
    exact of_decide_eq_true h3.1
  · rw [hd] at h3
    simp only [Bool.and_eq_true] at h3
    rw [List.getElem?_toArray] at hj
    have h6 := List.all_eq_true.1 h3.2 j (List.mem_range.2 (List.getElem?_eq_some_iff.1 hj).1)
    rw [hj] at h6
    simp only [hd', Bool.or_eq_true, decide_eq_true_eq, bne_self_eq_false, Bool.false_eq_true, or_false] at h6
    exact h6.symm
theorem apartB_sel {l : List Oper} {n i : Nat} {o : Oper} (h : apartB l n = true) (hi : l[i]? = some o) : ∀ cs b, o.op ≠ .select cs b := by
  have h1 := apartB_at h hi
  simp only [apartAt, Bool.and_eq_true] at h1
  intro cs b e
  have h2 := h1.2
  rw [selB, e] at h2
  cases h2
theorem any_mem {α : Type} {f : α → Bool} {ar : Array α} (h : ar.any f = true) : ∃ x, x ∈ ar ∧ f x = true := by
  rw [← Array.any_toList] at h
  obtain ⟨x, hx, hp⟩ := List.any_eq_true.1 h
  exact ⟨x, by simpa using hx, hp⟩
theorem agree {l : List Oper} {n i : Nat} {o : Oper} (h : apartB l n = true) (hi : l[i]? = some o) {V : Nat → Value} {a0 a b : Act} {L L' : Nat → Bool} (hF : Filled l.toArray V a0 L a) (hF' : Filled l.toArray V a0 L' b)
    (hL : ∀ e ∈ o.after, Region.binds .any e = true → L e.on = true) (hL' : ∀ e ∈ o.after, Region.binds .any e = true → L' e.on = true) : execOp a.eval o = execOp b.eval o := by
  refine execOp_congr o (apartB_sel h hi) fun x hx => ?_
  cases x with
  | tmp t =>
    have h1 := apartB_at h hi
    simp only [apartAt, Bool.and_eq_true] at h1
    have h2 : depB l o t = true := Array.all_eq_true_iff_forall_mem.1 h1.1.2 _ hx
    have e : a.tmps[t]? = b.tmps[t]? := by
      by_cases hk : ∃ (j : Nat) (o' : Oper), l[j]? = some o' ∧ o'.dst = some t
      · obtain ⟨j, o', hj, hd⟩ := hk
        have h3 := List.all_eq_true.1 h2 j (List.mem_range.2 (List.getElem?_eq_some_iff.1 hj).1)
        rw [hj] at h3
        simp only [hd, bne_self_eq_false, Bool.false_or] at h3
        obtain ⟨e, he, h4⟩ := any_mem h3
        simp only [Bool.and_eq_true, beq_iff_eq] at h4
        obtain ⟨rfl, hb⟩ := h4
        exact (hF.hit e.on o' t (by simpa using hj) hd (hL e he hb)).trans (hF'.hit e.on o' t (by simpa using hj) hd (hL' e he hb)).symm
      · have hn : ∀ (L : Nat → Bool) (j : Nat) (o' : Oper), l.toArray[j]? = some o' → L j = true → o'.dst ≠ some t := fun _ j o' hj _ hd => hk ⟨j, o', by simpa using hj, hd⟩
        exact (hF.miss t (hn L)).trans (hF'.miss t (hn L')).symm
    simp only [Act.eval, Array.getD_eq_getD_getElem?, e]
  | _ => rfl
theorem quiet_miss {ops : Array Oper} {C : World → Prop} {A : Act} : ∀ (suf : List Oper) (b : Act), (∀ o ∈ suf, o.guard = none) → wpQuiet P ops C (fun a' => a' = A) suf b → ∀ d, (∀ o ∈ suf, o.dst ≠ some d) → A.tmps[d]? = b.tmps[d]?
  | [], b, _, h, d, _ => by
    have h : b = A := h
    rw [h]
  | o :: suf, b, hg, h, d, hd => by
    simp only [wpQuiet] at h
    have hw : Region.wanted o (yielded ops b.tmps) = true := by simp [Region.wanted, hg o (by simp)]
    rw [if_pos hw] at h
    obtain ⟨v, -, h2⟩ := h
    have h3 := quiet_miss suf _ (fun o ho => hg o (by simp [ho])) h2 d (fun o ho => hd o (by simp [ho]))
    rw [h3]
    have h4 := hd o (by simp)
    cases hdo : o.dst with
    | none => rfl
    | some e =>
      rw [put_get, if_neg (fun hc => h4 (by rw [hdo, hc.1]))]
/-- What the end of the walk holds in an operation's slot. -/
def endV (l : List Oper) (A : Act) (n : Nat) (p : Value) (i : Nat) : Value :=
  if i < n then (((l[i]?).bind (·.dst)).bind (A.tmps[·]?)).getD undef else if i = n then p else undef
theorem quiet_steps {l : List Oper} {C : World → Prop} {a A : Act} {n : Nat} {p : Value} (hB : apartB l a.tmps.size = true) (hn : n ≤ l.length) (hsome : ∀ o ∈ l.take n, ∃ d, o.dst = some d)
    (h : wpQuiet P l.toArray C (fun a' => a' = A) (l.take n) a) : ∀ m, m ≤ n → wpQuiet P l.toArray C (fun a' => a' = A) ((l.take n).drop m) (putAll l.toArray (endV l A n p) m a) ∧
      ∀ i o, i < m → l[i]? = some o → ∀ w, C w → o.quietAt P (putAll l.toArray (endV l A n p) i a) C w (endV l A n p i)
  | 0, _ => ⟨h, fun i o hi => absurd hi (Nat.not_lt_zero _)⟩
  | m + 1, hm => by
    obtain ⟨h1, h2⟩ := quiet_steps hB hn hsome h m (by omega)
    have hml : m < l.length := by omega
    have hg : l[m]? = some l[m] := List.getElem?_eq_getElem hml
    have hA := apartB_spec hB
    have hd : (l.take n).drop m = l[m] :: (l.take n).drop (m + 1) := by
      rw [List.drop_eq_getElem_cons (by simp; omega)]
      simp
    rw [hd] at h1
    simp only [wpQuiet] at h1
    have hw : Region.wanted l[m] (yielded l.toArray (putAll l.toArray (endV l A n p) m a).tmps) = true := by simp [Region.wanted, hA.plain m l[m] (by rw [List.getElem?_toArray]; exact hg)]
    rw [if_pos hw] at h1
    obtain ⟨v, h3, h4⟩ := h1
    obtain ⟨d, hdm⟩ := hsome l[m] (List.mem_take_iff_getElem.2 ⟨m, by omega, rfl⟩)
    have hsz := (putAll_filled (V := endV l A n p) hA m (by simpa using Nat.le_of_lt hml)).size
    have hv : endV l A n p m = v := by
      have h5 := quiet_miss _ _ (fun o ho => ?_) h4 d (fun o ho hod => ?_)
      · rw [hdm, put_get, if_pos ⟨rfl, by rw [hsz]; exact hA.inside m l[m] d (by rw [List.getElem?_toArray]; exact hg) hdm⟩] at h5
        simp only [endV, hg, Option.bind_some, hdm, h5, Option.getD_some]
        rw [if_pos (by omega)]
      · obtain ⟨j, hj, rfl⟩ := List.getElem_of_mem ho
        simp only [List.getElem_drop, List.getElem_take]
        exact hA.plain (m + 1 + j) _ (by rw [List.getElem?_toArray]; exact List.getElem?_eq_getElem _)
      · obtain ⟨j, hj, rfl⟩ := List.getElem_of_mem ho
        simp only [List.getElem_drop, List.getElem_take] at hod
        have := hA.one (m + 1 + j) m _ _ d (by rw [List.getElem?_toArray]; exact List.getElem?_eq_getElem _) (by rw [List.getElem?_toArray]; exact hg) hod hdm
        omega
    refine ⟨?_, fun i o hi ho w hC => ?_⟩
    · simp only [putAll, List.getElem?_toArray, hg, Option.bind_some]
      rw [hv]
      exact h4
    · by_cases him : i = m
      · subst him
        rw [hg] at ho
        cases ho
        rw [hv]
        exact h3 w hC
      · exact h2 i o (by omega) ho w hC
/-- **A drawn region of quiet operations, one alloc and one store behind it.** -/
theorem wp_region_quiet_new {id : Nat} {l : List Oper} {a A : Act} {w w2 w3 : World} (n : Nat) {oA oS : Oper} {dA : Nat} {p : Value} (hm : P.follows .mixedOrders = true) {mm : Nat} (hsz : a.tmps.size = mm) (hB : apartB l mm = true)
    (hlen : l.length = n + 2) (hsome : (l.take n).all (fun o => o.dst.isSome) = true) (hoA : l[n]? = some oA) (hoS : l[n + 1]? = some oS) (hdA : oA.dst = some dA) (hdS : oS.dst = none)
    (hAS : oS.after.any (fun e => e.on == n && Region.binds .any e) = true)
    (hrA : ∀ a : Act, (execOp a.eval oA).run P w.drew = .ok (.value p) w2)
    (hrS : (execOp (A.put (some dA) p).eval oS).run P w2 = .ok .skip w3)
    (h1 : wpQuiet P l.toArray (fun w' => w' = w.drew) (fun a' => a' = A) (l.take n) a)
    (h2 : wpQuiet P l.toArray (fun w' => w' = w2) (fun a' => a' = A) (l.take n) a)
    (h3 : wpQuiet P l.toArray (fun w' => w' = w3) (fun a' => a' = A) (l.take n) a)
    (hend : Q .normal (A.put (some dA) p) w3) : (Code.region id l.toArray true).wp P Q a w := by
  subst hsz
  have hA := apartB_spec hB
  have hsm : ∀ o ∈ l.take n, ∃ d, o.dst = some d := fun o ho => Option.isSome_iff_exists.1 (List.all_eq_true.1 hsome o ho)
  obtain ⟨V, hV⟩ : ∃ V, endV l A n p = V := ⟨_, rfl⟩
  have q1 := quiet_steps (p := p) hB (by omega) hsm h1 n (Nat.le_refl _)
  have q2 := (quiet_steps (p := p) hB (by omega) hsm h2 n (Nat.le_refl _)).2
  have q3 := (quiet_steps (p := p) hB (by omega) hsm h3 n (Nat.le_refl _)).2
  have hAe : putAll l.toArray (endV l A n p) n a = A := by
    have h := q1.1
    rw [List.drop_of_length_le (by rw [List.length_take]; omega)] at h
    exact h
  have q1 := q1.2
  have hVn : endV l A n p n = p := by simp [endV]
  have hVs : endV l A n p (n + 1) = undef := by
    simp only [endV]
    rw [if_neg (by omega), if_neg (by omega)]
  rw [hV] at q1 q2 q3 hAe hVn hVs
  clear hV h1 h2 h3
  have hAn : putAll l.toArray V (n + 1) a = A.put (some dA) p := by
    simp only [putAll, hAe, List.getElem?_toArray, hoA, Option.bind_some, hdA, hVn]
  have hAl : putAll l.toArray V (n + 2) a = A.put (some dA) p := by
    rw [putAll, hAn]
    simp only [List.getElem?_toArray, hoS, Option.bind_some, hdS]
    rfl
  have hfill : ∀ i, i ≤ l.length → Filled l.toArray V a (fun j => decide (j < i)) (putAll l.toArray V i a) := fun i hi => putAll_filled hA i (by simpa using hi)
  have hback : ∀ (i : Nat) (o : Oper), l[i]? = some o → ∀ e ∈ o.after, Region.binds .any e = true → (fun j => decide (j < i)) e.on = true := fun i o hi e he _ => by
    have := hA.back i o (by simpa using hi) e he
    simpa using this
  refine wp_region_any hm ?_
  refine wpAny_fixed (V := V) (S := fun L wx => (L n = false ∧ L (n + 1) = false ∧ wx = w.drew) ∨ (L n = true ∧ L (n + 1) = false ∧ wx = w2) ∨ (L n = true ∧ L (n + 1) = true ∧ wx = w3)) (a0 := a) hA ?_ ?_ _ _ _ _ (by simp) (by simp) ?_ ?_
  · intro i o L b wx hi hL he hF hS K Q' hK
    rw [List.getElem?_toArray] at hi
    have hil := (List.getElem?_eq_some_iff.1 hi).1
    have hag := agree hB hi hF (hfill i (by omega)) he (hback i o hi)
    unfold Oper.wp
    rw [hag]
    by_cases hin : i < n
    · have hq : o.quietAt P (putAll l.toArray V i a) (fun w' => w' = wx) wx (V i) := by
        rcases hS with ⟨-, -, rfl⟩ | ⟨-, -, rfl⟩ | ⟨-, -, rfl⟩
        · exact q1 i o hin hi _ rfl
        · exact q2 i o hin hi _ rfl
        · exact q3 i o hin hi _ rfl
      have hS' : ∀ w', w' = wx → K (b.put o.dst (V i)) w' := by
        rintro w' rfl
        refine hK w' ?_
        have e1 : upd L i n = L n := by simp only [upd]; rw [if_neg (by omega)]
        have e2 : upd L i (n + 1) = L (n + 1) := by simp only [upd]; rw [if_neg (by omega)]
        simp only [e1, e2]
        exact hS
      unfold Oper.quietAt at hq
      generalize (execOp (putAll l.toArray V i a).eval o).run P wx = r at hq
      cases r with
      | ok x w' =>
        cases x <;> simp only [Oper.quietUpon] at hq <;> simp only [Oper.upon]
        case value u => obtain ⟨rfl, rfl⟩ := hq; exact hS' _ rfl
        case skip => obtain ⟨rfl, h⟩ := hq; rw [← h]; exact hS' _ rfl
        case enter f args =>
          obtain ⟨rfl, hc⟩ := hq
          refine Calls.mono hc fun e w'' h => ?_
          obtain ⟨rfl, rfl⟩ := h
          exact hS' _ rfl
      | halt x w' => simp only [Oper.quietUpon] at hq
    · by_cases hi2 : i = n
      · subst hi2
        rw [hoA] at hi
        cases hi
        rcases hS with ⟨s1, s2, rfl⟩ | ⟨s1, -, -⟩ | ⟨s1, -, -⟩
        · rw [hrA]
          simp only [Oper.upon]
          rw [← hVn]
          exact hK _ (.inr (.inl ⟨by simp [upd], by simp only [upd]; rw [if_neg (by omega)]; exact s2, rfl⟩))
        · rw [hL] at s1; cases s1
        · rw [hL] at s1; cases s1
      · obtain rfl : i = n + 1 := by omega
        rw [hoS] at hi
        cases hi
        obtain ⟨e, hem, heb⟩ := any_mem hAS
        simp only [Bool.and_eq_true, beq_iff_eq] at heb
        have hLn := he e hem heb.2
        rw [heb.1] at hLn
        rcases hS with ⟨s1, -, -⟩ | ⟨s1, s2, rfl⟩ | ⟨-, s2, -⟩
        · rw [hLn] at s1; cases s1
        · rw [hAn, hrS]
          simp only [Oper.upon]
          rw [← hVs]
          exact hK _ (.inr (.inr ⟨by simp only [upd]; rw [if_neg (by omega)]; exact s1, by simp [upd], rfl⟩))
        · rw [hL] at s2; cases s2
  · intro L wx hall hS
    have e0 : l.toArray.size = n + 2 := by simpa using hlen
    rw [e0, hAl]
    have h1 := hall n (by omega)
    have h2 := hall (n + 1) (by omega)
    rcases hS with ⟨s1, -, -⟩ | ⟨-, s2, -⟩ | ⟨-, -, rfl⟩
    · rw [h1] at s1; cases s1
    · rw [h2] at s2; cases s2
    · exact hend
  · refine ⟨fun i o d hi _ hL => ?_, fun _ _ => rfl, rfl, rfl⟩
    have hi' := (Array.getElem?_eq_some_iff.1 hi).1
    simp only [List.size_toArray] at hi'
    simp [listedF, Array.getD_eq_getD_getElem?, hi'] at hL
  · refine .inl ⟨?_, ?_, rfl⟩
    · simp [listedF, Array.getD_eq_getD_getElem?, hlen]
    · simp [listedF, Array.getD_eq_getD_getElem?, hlen]
end
end Go.Proofs.YtbefmlioampgcaaGreatDoor
