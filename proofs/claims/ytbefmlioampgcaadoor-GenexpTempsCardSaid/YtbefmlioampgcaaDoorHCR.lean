/- The operations of an operator, walked: single, operate. -/
import Derived.Test.YtbefmlioampgcaaDoorHK11
namespace Go.Proofs.YtbefmlioampgcaaDoor
open Go.RowKit
set_option linter.unusedVariables false
set_option linter.unusedSimpArgs false

set_option maxRecDepth 100000 in
set_option maxHeartbeats 4000000 in
theorem gSingle (o : Nat) (h1 : 1 ≤ o) (h2 : o ≤ 13) (w : World) : Calls Tryd.prog 110 #[.int .u8 o] w (RetV (.int .i32 (singleO o)) w) := by
  have ho : o = 1 ∨ o = 2 ∨ o = 3 ∨ o = 4 ∨ o = 5 ∨ o = 6 ∨ o = 7 ∨ o = 8 ∨ o = 9 ∨ o = 10 ∨ o = 11 ∨ o = 12 ∨ o = 13 := by omega
  have hk : ∀ x, Below w.heap.size w (w.alloc x) := fun x => (Below.refl _ _).alloc (Nat.le_refl _) _
  have HK := Lib.hid hk
  clear hk h1 h2
  rcases ho with rfl | rfl | rfl | rfl | rfl | rfl | rfl | rfl | rfl | rfl | rfl | rfl | rfl
  all_goals
    go_enter Tryd.func110, Tryd.ntmps110
    go_wp2
    go_ret
    exact ⟨rfl, HK.out _⟩
theorem gPutF (g : EmL) (bm base : Nat) (ls : List LineL) (made : Nat) (next : List UInt8) (F arg : Int) (w : World) (hF : 0 ≤ F) (hl : ls.length ≤ 1000000) (h : Em g bm base ls made next w) :
    Calls Tryd.prog 71 #[.pointer (some ⟨bm, 0, none⟩), .int .u8 F, .int .i32 arg] w (RetEm g bm base (ls ++ [⟨next, F.toNat, arg, [], []⟩]) made [] w) := by
  have h1 := gPut g bm base ls made next F.toNat arg hl w h
  rwa [show ((F.toNat : Nat) : Int) = F by omega] at h1
def PutAll (g : EmL) (bm base made : Nat) : Prop := ∀ (ls : List LineL) (F arg : Int) (w : World), 0 ≤ F → ls.length ≤ 1000000 → Em g bm base ls made [] w →
  Calls Tryd.prog 71 #[.pointer (some ⟨bm, 0, none⟩), .int .u8 F, .int .i32 arg] w (RetEm g bm base (ls ++ [⟨[], F.toNat, arg, [], []⟩]) made [] w)
theorem putAll_of (g : EmL) (bm base made : Nat) : PutAll g bm base made := fun ls F arg w h1 h2 h3 => gPutF g bm base ls made [] F arg w h1 h2 h3
set_option maxRecDepth 100000 in
set_option maxHeartbeats 4000000 in
theorem gOperate (g : EmL) (bm base : Nat) (ls : List LineL) (made o : Nat) (h1 : 1 ≤ o) (h2 : o ≤ 22) (h20 : o ≠ 20) (h21 : o ≠ 21) (hl : ls.length ≤ 900000) (w : World) (h : Em g bm base ls made [] w) :
    Calls Tryd.prog 100 #[.pointer (some ⟨bm, 0, none⟩), .int .u8 o] w (RetEm g bm base (ls ++ operL o) made [] w) := by
  have HP := Lib.hid (putAll_of g bm base made)
  unfold PutAll at HP
  have hE : Hid (Em g bm base ls made [] w ∧ EmK bm base w w) := Lib.hid ⟨h, EmK.refl _ _ _⟩
  have HL := Lib.hid hl
  clear h hl
  have ho : o = 14 ∨ o = 15 ∨ o = 16 ∨ o = 17 ∨ o = 18 ∨ o = 19 ∨ o = 22 ∨ (1 ≤ o ∧ o ≤ 13) := by omega
  rcases ho with rfl | rfl | rfl | rfl | rfl | rfl | rfl | ho
  iterate 7
    · clear h1 h2 h20 h21
      go_enter Tryd.func100, Tryd.ntmps100
      go_wp2_with first
        | (go_at_call 71; (with_reducible refine (HP.out _ _ _ _ (by decide) (by have := HL.out; first | omega | (simp only [List.length_append, List.length_cons, List.length_nil]; omega)) hE.out.1).mono ?_); rintro e w2 ⟨rfl, he, hk⟩
           replace hE := Lib.hid (And.intro he (hE.out.2.trans hk))
           clear he hk)
      go_end0
      refine ⟨rfl, ?_, hE.out.2⟩
      have := hE.out.1
      try simp only [List.append_assoc] at this
      exact this
  have hop : operL o = [lnO (singleO o)] := by
    unfold operL
    rw [if_neg (by omega), if_neg (by omega), if_neg (by omega), if_neg (by omega), if_neg (by omega), if_neg (by omega), if_neg (by omega)]
  have HO := Lib.hid hop
  have HS := Lib.hid (gSingle o ho.1 ho.2)
  have a1 : (o : Int) ≤ 13 := by omega
  have a2 : (1 : Int) ≤ o := by omega
  have b14 : ((o : Int) == 14) = false := by simp; omega
  have b15 : ((o : Int) == 15) = false := by simp; omega
  have b16 : ((o : Int) == 16) = false := by simp; omega
  have b17 : ((o : Int) == 17) = false := by simp; omega
  have b18 : ((o : Int) == 18) = false := by simp; omega
  have b19 : ((o : Int) == 19) = false := by simp; omega
  have b22 : ((o : Int) == 22) = false := by simp; omega
  clear hop ho h1 h2 h20 h21
  go_enter Tryd.func100, Tryd.ntmps100
  go_wp2_with first
    | (go_at_call 110; (with_reducible refine (HS.out _).mono ?_); rintro e w1 ⟨rfl, hb⟩
       replace hE := Lib.hid (And.intro (hE.out.1.below hb) (hE.out.2.trans (EmK.of_below hb hE.out.1.base_le)))
       clear hb)
    | (go_at_call 71; (with_reducible refine (HP.out _ _ _ _ (by decide) (by have := HL.out; omega) hE.out.1).mono ?_); rintro e w2 ⟨rfl, he, hk⟩
       replace hE := Lib.hid (And.intro he (hE.out.2.trans hk))
       clear he hk)
  go_end0
  exact ⟨rfl, by rw [HO.out]; exact hE.out.1, hE.out.2⟩
end Go.Proofs.YtbefmlioampgcaaDoor
