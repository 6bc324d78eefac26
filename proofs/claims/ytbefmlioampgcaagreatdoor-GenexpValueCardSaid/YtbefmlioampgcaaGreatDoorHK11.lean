/- Texts that belong together, joined: what each one holds is told ahead of it. -/
import Derived.Test.YtbefmlioampgcaaGreatDoorHK1
import Derived.BigQuiet
import Derived.Test.YtbefmlioampgcaaGreatDoorHK10
import Derived.Test.YtbefmlioampgcaaGreatDoorHCK
import Derived.Test.YtbefmlioampgcaaGreatDoorHK33
import Derived.Test.YtbefmlioampgcaaGreatDoorHK4
set_option linter.unusedVariables false
set_option linter.unusedSimpArgs false
/- A region that draws its order, whose operations only read and whose callees leave what lay: walked once, in the order of the text. -/
namespace Go.Proofs.YtbefmlioampgcaaGreatDoor
open Go.RowKit
set_option linter.unusedVariables false
set_option linter.unusedSimpArgs false

/-- The worlds that a world may become where what lies below its end stays. -/
theorem fam_below (W : World) : ∃ (ι : Type) (F : ι → World) (i0 : ι), F i0 = W.drew ∧ (∀ i, Below W.heap.size W (F i)) ∧ (∀ i w', Below (F i).heap.size (F i) w' → ∃ j, w' = F j) :=
  ⟨{ w' : World // Below W.heap.size W w' }, Subtype.val, ⟨W.drew, (Below.refl _ _).drew⟩, rfl, fun i => i.2, fun i w' h => ⟨⟨w', i.2.trans (h.mono i.2.size)⟩, rfl⟩⟩
theorem wp_region_quiet_fam {P : Program} {ι : Type} (F : ι → World) (i0 : ι) {id : Nat} {Q : Exit → Act → World → Prop} {a : Act} {w : World} {l : List Oper} (h0 : F i0 = w.drew) (hm : P.follows .mixedOrders = true) (hB : Region.lexB .any l.toArray = true)
    (h : wpQuiet P l.toArray (fun w' => ∃ i, w' = F i) (fun a' => ∀ i, Q .normal a' (F i)) l a) : (Code.region id l.toArray true).wp P Q a w := by
  refine wp_region_quiet (C := fun w' => ∃ i, w' = F i) hm hB ⟨i0, h0.symm⟩ ?_
  have e : (fun a' : Act => ∀ w', (∃ i, w' = F i) → Q .normal a' w') = fun a' => ∀ i, Q .normal a' (F i) := by
    funext a'
    exact propext ⟨fun h i => h _ ⟨i, rfl⟩, fun h w' ⟨i, hi⟩ => hi ▸ h i⟩
  rw [e]
  simpa using h
end Go.Proofs.YtbefmlioampgcaaGreatDoor

/- A new label, walked; what the emitter's functions ask of what is laid. -/
namespace Go.Proofs.YtbefmlioampgcaaGreatDoor
open Go.RowKit
set_option linter.unusedVariables false
set_option linter.unusedSimpArgs false

/-- What lies below B for the code of expressions: the instructions, the powers of ten, the quiet operators. -/
def LaidG (B : Nat) (w : World) : Prop := LaidW B w ∧ (∀ w', Below B w w' → Lib.TabIs Tryz.prog w' "internal/strconv.uint64pow10" .u64 Lib.pow10Tab) ∧ quietGL < B ∧ QuietAt w
theorem LaidG.on {B : Nat} {w w1 : World} (h : LaidG B w) (hb : Below B w w1) : LaidG B w1 :=
  ⟨h.1.on hb, fun w' h' => h.2.1 w' (hb.trans h'), h.2.2.1, h.2.2.2.below hb h.2.2.1⟩
theorem LaidG.tab {B : Nat} {w : World} (h : LaidG B w) : Lib.TabIs Tryz.prog w "internal/strconv.uint64pow10" .u64 Lib.pow10Tab := h.2.1 w (Below.refl _ _)
theorem itoaG (B : Nat) (v : Nat) (w : World) (hv : v ≤ 1000000) (hL : LaidG B w) : Calls Tryz.prog 93 #[.int .i64 v] w (RetV (.string ⟨(Lib.decDigits v).toArray⟩) w) := by
  refine (Any.strconv_Itoa Tryz.laysM171 v (by omega) (by omega) w hL.tab).mono ?_
  rintro e w' ⟨rfl, k, os, rfl⟩
  exact ⟨by rw [Lib.itoa_nonneg], below_gr _ _ _⟩
def RetFr (g : EmL) (bm base : Nat) (ls : List LineL) (made : Nat) (w : World) (e : Ending) (w' : World) : Prop :=
  e = .returned (.string (strB (g.label ++ [46] ++ Lib.decDigits (made + 1)))) ∧ Em g bm base ls (made + 1) [] w' ∧ EmK bm base w w'
theorem dec_le : ∀ {v : Nat}, v ≤ 1000000 → (Lib.decDigits v).length ≤ 10 := fun h => dec_len _ (by omega)
set_option maxRecDepth 100000 in
set_option maxHeartbeats 4000000 in
theorem gFresh (g : EmL) (bm base B : Nat) (ls : List LineL) (made : Nat) (hm : made < 1000000) (hgl : g.label.length ≤ 100) (w : World) (h : Em g bm base ls made [] w) (hL : LaidG B w) (hB : B ≤ base) :
    Calls Tryz.prog 62 #[.pointer (some ⟨bm, 0, none⟩)] w (RetFr g bm base ls made w) := by
  have hbs := h.base_le
  obtain ⟨h1, v, hB0, hO⟩ := h
  have hlt := hB0.lt
  obtain ⟨W1, hW1⟩ : ∃ W, w.setCell ⟨bm, 9, none⟩ (.int .i64 ((made : Int) + 1)) = W := ⟨_, rfl⟩
  have b1 : Blk W1 bm 72 (g.cells v (made + 1) []) := by rw [← hW1]; exact hB0.set_ 9 (.int .i64 ((made + 1 : Nat) : Int))
  have hne := own_blk_ne hO hB0 (by decide)
  have hO1 : W1.ownsRow base 62 5 v ls.length (linesL ls) := by
    rw [← hW1]
    refine ⟨hO.1, ?_⟩
    rcases hO.2 with hn | ⟨b, cap, cur, e, hb', hgg, rest⟩
    · exact .inl hn
    · refine .inr ⟨b, cap, cur, e, hb', ?_, rest⟩
      rw [Below.heap_setCell w _ _ b (by rintro rfl; exact hne (by rw [e]; rfl))]
      exact hgg
  have HE : Hid (Em g bm base ls (made + 1) [] W1 ∧ EmK bm base w W1) := Lib.hid ⟨⟨h1, v, b1, hO1⟩, by rw [← hW1]; exact EmK.set h1 _ _ _⟩
  have hL1 := hL.on (HE.out.2.1.mono hB)
  simp only [EmL.cells] at hB0 b1
  have c9 := hB0.cell 9
  have f9 := hB0.frozen 9
  have d7 := b1.cell 7
  have d9 := b1.cell 9
  simp at c9 d7 d9
  have hl1 : bm < W1.heap.size := b1.lt
  have hm9 : (made : Int) < 1000000 := by omega
  obtain ⟨ι, F, i0', h0', hFb, hcl⟩ := fam_below W1
  haveI : Nonempty ι := ⟨i0'⟩
  have F7 : ∀ i, (F i).cell? ⟨bm, 7, none⟩ = some (.string (strB g.label)) := fun i => ((bcell (hFb i)).1 bm 7 hl1).trans d7
  have F9 : ∀ i, (F i).cell? ⟨bm, 9, none⟩ = some (.int .i64 ((made : Int) + 1)) := fun i => ((bcell (hFb i)).1 bm 9 hl1).trans d9
  have HI : Hid (∀ i, Calls Tryz.prog 93 #[.int .i64 ((made : Int) + 1)] (F i) (RetV (.string ⟨(Lib.decDigits (made + 1)).toArray⟩) (F i))) := Lib.hid fun i =>
    itoaG B (made + 1) (F i) (by omega) (hL1.on ((hFb i).mono (by omega)))
  have hS : strB (g.label ++ [46] ++ Lib.decDigits (made + 1)) = (strB g.label ++ ⟨#[46]⟩) ++ ⟨(Lib.decDigits (made + 1)).toArray⟩ := by
    have e1 : strB g.label ++ (⟨#[46]⟩ : ByteArray) = strB (g.label ++ [46]) := str_append g.label [46]
    rw [e1]
    exact (str_append (g.label ++ [46]) (Lib.decDigits (made + 1))).symm
  have HS := Lib.hid hS
  have HFB := Lib.hid hFb
  have hz1 : (strB g.label).size = g.label.length := rfl
  have hz2 : (⟨(Lib.decDigits (made + 1)).toArray⟩ : ByteArray).size = (Lib.decDigits (made + 1)).length := rfl
  have hz3 := dec_le (v := made + 1) (by omega)
  obtain ⟨SA, hSA⟩ : ∃ S, strB g.label = S := ⟨_, rfl⟩
  obtain ⟨SB, hSB⟩ : ∃ S, (⟨(Lib.decDigits (made + 1)).toArray⟩ : ByteArray) = S := ⟨_, rfl⟩
  rw [hSA] at hz1 F7 HS
  rw [hSB] at hz2 HI HS
  have n1 : ¬ 9223372036854775807 < SA.size + 1 := by omega
  have n2 : ¬ 9223372036854775807 < SA.size + 1 + SB.size := by omega
  have n3 : ¬ 9223372036854775807 < (SA ++ ⟨#[46]⟩).size + SB.size := by
    have : (SA ++ (⟨#[46]⟩ : ByteArray)).size = SA.size + 1 := by rw [ByteArray.size_append]; rfl
    omega
  clear hB0 b1 hO hO1 hne hL hL1 hS hFb d7 d9 hz1 hz2 hz3 hSA hSB
  go_enter Tryz.func62, Tryz.ntmps62
  go_wp2
  refine wp_region_quiet_fam F i0' h0' (by kernel_rfl) (by kernel_rfl) ?_
  repeat (go_big_quiet_step (first
    | (go_at_call 93; refine (HI.out _).mono ?_; rintro e w4 ⟨rfl, hb4⟩; exact ⟨rfl, hcl _ _ hb4⟩)))
  refine wpQuiet_nil ?_
  intro i
  go_wp2
  go_ret
  refine ⟨by rw [HS.out]; rfl, HE.out.1.below (HFB.out i), HE.out.2.trans (EmK.of_below (HFB.out i) ?_)⟩
  exact Nat.le_trans hbs HE.out.2.size
end Go.Proofs.YtbefmlioampgcaaGreatDoor
