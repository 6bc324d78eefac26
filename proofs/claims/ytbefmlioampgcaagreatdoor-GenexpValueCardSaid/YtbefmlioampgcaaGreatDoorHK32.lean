/- Texts that belong together, joined: what each one holds is told ahead of it. -/
import Derived.Test.YtbefmlioampgcaaGreatDoorHK11
import Derived.Test.YtbefmlioampgcaaGreatDoorHK10
import Derived.Test.YtbefmlioampgcaaGreatDoorHK1
import Derived.Test.YtbefmlioampgcaaGreatDoorHK2
import Derived.Test.YtbefmlioampgcaaGreatDoorHK12
set_option linter.unusedVariables false
set_option linter.unusedSimpArgs false
/- The operations of an operator, walked: single, operate. -/
namespace Go.Proofs.YtbefmlioampgcaaGreatDoor
open Go.RowKit
set_option linter.unusedVariables false
set_option linter.unusedSimpArgs false

set_option maxRecDepth 100000 in
set_option maxHeartbeats 4000000 in
theorem gSingle (o : Nat) (h1 : 1 ≤ o) (h2 : o ≤ 13) (w : World) : Calls Tryz.prog 94 #[.int .u8 o] w (RetV (.int .i32 (singleO o)) w) := by
  have ho : o = 1 ∨ o = 2 ∨ o = 3 ∨ o = 4 ∨ o = 5 ∨ o = 6 ∨ o = 7 ∨ o = 8 ∨ o = 9 ∨ o = 10 ∨ o = 11 ∨ o = 12 ∨ o = 13 := by omega
  have hk : ∀ x, Below w.heap.size w (w.alloc x) := fun x => (Below.refl _ _).alloc (Nat.le_refl _) _
  have HK := Lib.hid hk
  clear hk h1 h2
  rcases ho with rfl | rfl | rfl | rfl | rfl | rfl | rfl | rfl | rfl | rfl | rfl | rfl | rfl
  all_goals
    go_enter Tryz.func94, Tryz.ntmps94
    go_wp2
    go_ret
    exact ⟨rfl, HK.out _⟩
theorem gPutF (g : EmL) (bm base : Nat) (ls : List LineL) (made : Nat) (next : List UInt8) (F arg : Int) (w : World) (hF : 0 ≤ F) (hl : ls.length ≤ 1000000) (h : Em g bm base ls made next w) :
    Calls Tryz.prog 40 #[.pointer (some ⟨bm, 0, none⟩), .int .u8 F, .int .i32 arg] w (RetEm g bm base (ls ++ [⟨next, F.toNat, arg, [], []⟩]) made [] w) := by
  have h1 := gPut g bm base ls made next F.toNat arg hl w h
  rwa [show ((F.toNat : Nat) : Int) = F by omega] at h1
def PutAll (g : EmL) (bm base made : Nat) : Prop := ∀ (ls : List LineL) (F arg : Int) (w : World), 0 ≤ F → ls.length ≤ 1000000 → Em g bm base ls made [] w →
  Calls Tryz.prog 40 #[.pointer (some ⟨bm, 0, none⟩), .int .u8 F, .int .i32 arg] w (RetEm g bm base (ls ++ [⟨[], F.toNat, arg, [], []⟩]) made [] w)
theorem putAll_of (g : EmL) (bm base made : Nat) : PutAll g bm base made := fun ls F arg w h1 h2 h3 => gPutF g bm base ls made [] F arg w h1 h2 h3
set_option maxRecDepth 100000 in
set_option maxHeartbeats 4000000 in
theorem gOperate (g : EmL) (bm base : Nat) (ls : List LineL) (made o : Nat) (h1 : 1 ≤ o) (h2 : o ≤ 22) (h20 : o ≠ 20) (h21 : o ≠ 21) (hl : ls.length ≤ 900000) (w : World) (h : Em g bm base ls made [] w) :
    Calls Tryz.prog 64 #[.pointer (some ⟨bm, 0, none⟩), .int .u8 o] w (RetEm g bm base (ls ++ operL o) made [] w) := by
  have HP := Lib.hid (putAll_of g bm base made)
  unfold PutAll at HP
  have hE : Hid (Em g bm base ls made [] w ∧ EmK bm base w w) := Lib.hid ⟨h, EmK.refl _ _ _⟩
  have HL := Lib.hid hl
  clear h hl
  have ho : o = 14 ∨ o = 15 ∨ o = 16 ∨ o = 17 ∨ o = 18 ∨ o = 19 ∨ o = 22 ∨ (1 ≤ o ∧ o ≤ 13) := by omega
  rcases ho with rfl | rfl | rfl | rfl | rfl | rfl | rfl | ho
  iterate 7
    · clear h1 h2 h20 h21
      go_enter Tryz.func64, Tryz.ntmps64
      go_wp2_with first
        | (go_at_call 40; (with_reducible refine (HP.out _ _ _ _ (by decide) (by have := HL.out; first | omega | (simp only [List.length_append, List.length_cons, List.length_nil]; omega)) hE.out.1).mono ?_); rintro e w2 ⟨rfl, he, hk⟩
           replace hE := Lib.hid (And.intro he (hE.out.2.trans hk))
           clear he hk)
      go_end0
      refine ⟨rfl, ?_, hE.out.2⟩
      have := hE.out.1
      try simp only [List.append_assoc] at this
      exact this
  have hop : operL o = [lnO (singleO o)] := by
    unfold operL
    rw [if_neg (by omega), if_neg (by omega), if_neg (by omega), if_neg (by omega), if_neg (by omega), if_neg (by omega), if_neg (by omega)]
  have HO := Lib.hid hop
  have HS := Lib.hid (gSingle o ho.1 ho.2)
  have a1 : (o : Int) ≤ 13 := by omega
  have a2 : (1 : Int) ≤ o := by omega
  have b14 : ((o : Int) == 14) = false := by simp; omega
  have b15 : ((o : Int) == 15) = false := by simp; omega
  have b16 : ((o : Int) == 16) = false := by simp; omega
  have b17 : ((o : Int) == 17) = false := by simp; omega
  have b18 : ((o : Int) == 18) = false := by simp; omega
  have b19 : ((o : Int) == 19) = false := by simp; omega
  have b22 : ((o : Int) == 22) = false := by simp; omega
  clear hop ho h1 h2 h20 h21
  go_enter Tryz.func64, Tryz.ntmps64
  go_wp2_with first
    | (go_at_call 94; (with_reducible refine (HS.out _).mono ?_); rintro e w1 ⟨rfl, hb⟩
       replace hE := Lib.hid (And.intro (hE.out.1.below hb) (hE.out.2.trans (EmK.of_below hb hE.out.1.base_le)))
       clear hb)
    | (go_at_call 40; (with_reducible refine (HP.out _ _ _ _ (by decide) (by have := HL.out; omega) hE.out.1).mono ?_); rintro e w2 ⟨rfl, he, hk⟩
       replace hE := Lib.hid (And.intro he (hE.out.2.trans hk))
       clear he hk)
  go_end0
  exact ⟨rfl, by rw [HO.out]; exact hE.out.1, hE.out.2⟩
end Go.Proofs.YtbefmlioampgcaaGreatDoor

/- What follows the code of the only part of an expression, walked: after. -/
namespace Go.Proofs.YtbefmlioampgcaaGreatDoor
open Go.RowKit
set_option linter.unusedVariables false
set_option linter.unusedSimpArgs false

/-- How long a variable is, and where it lies, as the code has it. -/
def EmL.env (g : EmL) : CEnv := ⟨fun v => wrap32 (g.vars.getD v.toNat ⟨0, 0⟩).dim, fun v => wrap32 ((varL g.s g.frame v).getD 0), g.label⟩
/-- What surrounds an expression lies below B. -/
def EnvIn (g : EmL) (w : World) (B : Nat) : Prop :=
  g.s.In w B ∧ (lenOk g.vars ∧ Reads w B 2 g.Av g.vars.length (varsC g.vars) ∧ ∀ x ∈ g.vars, x.kind ≤ 255 ∧ i64ok x.dim) ∧ i64ok g.frame ∧ g.label.length ≤ 100
theorem EnvIn.below {g : EmL} {w w' : World} {B : Nat} (h : EnvIn g w B) (hb : Below B w w') : EnvIn g w' B :=
  ⟨h.1.below hb, ⟨h.2.1.1, h.2.1.2.1.below hb, h.2.1.2.2⟩, h.2.2⟩
theorem var_at {g : EmL} {w : World} {B : Nat} (h : EnvIn g w B) {k : Nat} (hk : k < g.vars.length) :
    ∃ b off x, g.Av = some ⟨b, off, none⟩ ∧ b < B ∧ g.vars[k]? = some x ∧ i64ok x.dim ∧ w.cell? ⟨b, off + k * 2, none⟩ = some (.int .u8 x.kind) ∧ w.cell? ⟨b, off + k * 2 + 1, none⟩ = some (.int .i64 x.dim) := by
  obtain ⟨b, off, x, h1, h2, h3, h4, hc⟩ := row_at (f := fun x => KVar.cells x |>.toList) (size := 2) (fun _ => rfl) (by decide) h.2.1.2.1 hk
  exact ⟨b, off, x, h1, h2, h3, (h.2.1.2.2 x h4).2, hc 0 _ rfl, hc 1 _ rfl⟩
theorem gJumpN (g : EmL) (bm base made : Nat) (ls : List LineL) (t : List UInt8) (w : World) (hl : ls.length ≤ 1000000) (h : Em g bm base ls made [] w) :
    Calls Tryz.prog 63 #[.pointer (some ⟨bm, 0, none⟩), .string (strB t)] w (RetEm g bm base (ls ++ [⟨[], 10, 0, t, []⟩]) made [] w) := gJump g bm base ls made [] t hl w h
set_option maxRecDepth 100000 in
set_option maxHeartbeats 4000000 in
theorem gAfter (g : EmL) (bm base B : Nat) (ls : List LineL) (made : Nat) (e : KE) (hf : fieldsB e = true) (h1 : e.l.length = 1) (hkn : e.kind = 3 → e.v < g.vars.length) (hl : ls.length ≤ 900000) (w : World) (h : Em g bm base ls made [] w)
    (hi : EnvIn g w B) (hB : B ≤ base) (hvo : i64ok e.v) :
    Calls Tryz.prog 43 #[.pointer (some ⟨bm, 0, none⟩), .agg e.cells] w (RetEm g bm base (ls ++ afterL g.env e.kind e.oper e.tk e.v) made [] w) := by
  have HP := Lib.hid (putAll_of g bm base made)
  unfold PutAll at HP
  have HJ := Lib.hid (gJumpN g bm base made)
  have hfk := fieldsB_1 hf h1
  have hv3 : e.kind = 3 → 0 ≤ e.v := fun hk => by
    unfold fieldsB at hf
    rw [hk] at hf
    have := of_decide_eq_true hf
    omega
  obtain ⟨W0, hW0⟩ : ∃ W, w.alloc (.cells e.cells 27) = W := ⟨_, rfl⟩
  have K0 : Below w.heap.size w W0 := by rw [← hW0]; exact (Below.refl _ _).alloc (Nat.le_refl _) _
  have b0 : Blk W0 w.heap.size 27 e.cells := by rw [← hW0]; exact Blk.new _ _ _
  have hbs := h.base_le
  have hE : Hid (Em g bm base ls made [] W0 ∧ EmK bm base w W0) := Lib.hid ⟨h.below K0, EmK.of_below K0 hbs⟩
  have hX : Hid (Blk W0 w.heap.size 27 e.cells) := Lib.hid b0
  have HI : Hid (EnvIn g W0 B) := Lib.hid (hi.below (K0.mono (Nat.le_trans hB hbs)))
  have HL := Lib.hid hl
  have hnb : ¬ w.heap.size = bm := by have := h.lt; omega
  have hlt := b0.lt
  obtain ⟨k, o, tk, num, v, A', c', l⟩ := e
  simp only [KE.cells] at b0 hW0 hX hfk hkn hv3 h1 hvo ⊢
  rw [h1] at b0 hW0 hX ⊢
  obtain ⟨K, hK⟩ : ∃ K : Int, (k : Int) = K := ⟨_, rfl⟩
  obtain ⟨O, hO⟩ : ∃ K : Int, (o : Int) = K := ⟨_, rfl⟩
  obtain ⟨T, hT⟩ : ∃ K : Int, (tk : Int) = K := ⟨_, rfl⟩
  rw [hK, hO, hT] at b0 hW0 hX ⊢
  have c0 := b0.cell 0
  have c1 := b0.cell 1
  have c2 := b0.cell 2
  have c3 := b0.cell 3
  have c4 := b0.cell 4
  have c5 := b0.cell 5
  simp at c0 c1 c2 c3 c4 c5
  have HKK := Lib.hid hK
  have HOO := Lib.hid hO
  have HTT := Lib.hid hT
  have HKN := Lib.hid hkn
  have HV3 := Lib.hid hv3
  have HVO := Lib.hid hvo
  have hbm0 := (h.below K0).lt
  clear h hi hf h1 b0 K0 hkn hv3 hvo hl hK hO hT
  rcases hfk with rfl | ⟨rfl, hk1, hk2⟩ | ⟨rfl, rfl, hk1, hk2⟩
  · obtain rfl : K = 3 := by have := HKK.out; omega
    have hv0 := HV3.out rfl
    have hv1 := HKN.out rfl
    obtain ⟨vn, rfl⟩ : ∃ n : Nat, v = n := ⟨v.toNat, by omega⟩
    obtain ⟨h1b, vv, hBm, hOw⟩ := hE.out.1
    have hBm0 := hBm
    simp only [EmL.cells] at hBm
    have d0 := hBm.cell 0
    have d1 := hBm.cell 1
    have d2 := hBm.cell 2
    have d3 := hBm.cell 3
    have d4 := hBm.cell 4
    have d5 := hBm.cell 5
    have d6 := hBm.cell 6
    have d7 := hBm.cell 7
    have d8 := hBm.cell 8
    have d9 := hBm.cell 9
    have d10 := hBm.cell 10
    simp at d0 d1 d2 d3 d4 d5 d6 d7 d8 d9 d10
    obtain ⟨ι, F, i0', h0', hFb, hcl⟩ := fam_below W0
    haveI : Nonempty ι := ⟨i0'⟩
    have F1 : ∀ i, (F i).cell? ⟨bm, 1, none⟩ = some (.slice g.s.Af g.s.fr.length g.s.cf) := fun i => ((bcell (hFb i)).1 bm 1 hbm0).trans d1
    have F2 : ∀ i, (F i).cell? ⟨bm, 2, none⟩ = some (.slice g.s.A1 g.s.vat.length g.s.c1) := fun i => ((bcell (hFb i)).1 bm 2 hbm0).trans d2
    have F3 : ∀ i, (F i).cell? ⟨bm, 3, none⟩ = some (.slice g.s.A2 g.s.vin.length g.s.c2) := fun i => ((bcell (hFb i)).1 bm 3 hbm0).trans d3
    have F4 : ∀ i, (F i).cell? ⟨bm, 4, none⟩ = some (.slice g.s.A3 g.s.cat.length g.s.c3) := fun i => ((bcell (hFb i)).1 bm 4 hbm0).trans d4
    have F5 : ∀ i, (F i).cell? ⟨bm, 5, none⟩ = some (.slice g.s.A4 g.s.cin.length g.s.c4) := fun i => ((bcell (hFb i)).1 bm 5 hbm0).trans d5
    have F6 : ∀ i, (F i).cell? ⟨bm, 6, none⟩ = some (.int .i64 g.frame) := fun i => ((bcell (hFb i)).1 bm 6 hbm0).trans d6
    have FV : ∀ i, (F i).cell? ⟨w.heap.size, 4, none⟩ = some (.int .i64 vn) := fun i => ((bcell (hFb i)).1 w.heap.size 4 hlt).trans c4
    have hBB : B ≤ W0.heap.size := by have := hE.out.1.base_le; omega
    have HV : Hid (∀ i, Calls Tryz.prog 39 #[.agg g.s.cells, .int .i64 g.frame, .int .i64 vn] (F i) (RetV (spotV (varL g.s g.frame vn)) (F i))) := Lib.hid fun i =>
      sVar g.s g.frame vn B (F i) (HI.out.1.below ((hFb i).mono hBB)) (Nat.le_trans hBB (hFb i).size) HI.out.2.2.1 HVO.out
    simp only [SpL.cells] at HV
    unfold spotV at HV
    have HFB := Lib.hid hFb
    have HAT : Hid (g.env.off vn = wrap32 ((varL g.s g.frame vn).getD 0)) := Lib.hid rfl
    generalize hsp : varL g.s g.frame vn = sp at *
    clear hFb d0 d1 d2 d3 d4 d5 d6 d7 d8 d9 d10 hBm hBm0 hOw c1 c2 c3 c4 c5 hsp
    go_enter Tryz.func43, Tryz.ntmps43
    go_wp2
    refine wp_region_quiet_fam F i0' h0' (by kernel_rfl) (by kernel_rfl) ?_
    repeat (go_big_quiet_step (first
      | (go_at_call 39; refine (HV.out _).mono ?_; rintro e w4 ⟨rfl, hb4⟩; exact ⟨rfl, hcl _ _ hb4⟩)))
    refine wpQuiet_nil ?_
    intro i
    go_wp2
    obtain ⟨W2, hW2⟩ : ∃ W, F i = W := ⟨_, rfl⟩
    have K2 := HFB.out i
    rw [hW2] at K2 ⊢
    have hE2 : Hid (Em g bm base ls made [] W2 ∧ EmK bm base w W2) := Lib.hid ⟨hE.out.1.below K2, hE.out.2.trans (EmK.of_below K2 hE.out.1.base_le)⟩
    have HX2 := hX.out.call K2
    have e4 := HX2.cell 4
    simp at e4
    have hlt2 := HX2.lt
    obtain ⟨-, vv2, hBm2, -⟩ := hE2.out.1
    have hbm2 := hBm2.lt
    simp only [EmL.cells] at hBm2
    have d0 := hBm2.cell 0
    simp at d0
    obtain ⟨bV, oV, xV, hAv, hbV, hxV, hdim, v0, v1⟩ := var_at (HI.out.below (K2.mono hBB)) (k := vn) (by omega)
    have HDM : Hid (g.env.dim vn = wrap32 xV.dim) := Lib.hid (by simp [EmL.env, hxV])
    have hbV2 : bV < W2.heap.size := by have := K2.size; omega
    rw [hAv] at d0
    have hvI : (vn : Int) < g.vars.length := hv1
    clear hW2 K2 HX2 hBm2 hxV hAv HFB HV hcl F1 F2 F3 F4 F5 F6 FV h0' hE hX HI
    refine wp_region_quiet_tail 12 (by kernel_rfl) (by kernel_rfl) ?_
    simp only [List.take_succ_cons, List.take_zero, List.drop_succ_cons, List.drop_zero]
    repeat go_big_quiet_step (fail)
    refine wpQuiet_nil ?_
    have hE3 : Hid (Em g bm base ls made [] W2.drew ∧ EmK bm base w W2.drew) := Lib.hid ⟨hE2.out.1.below (Below.refl _ _).drew, hE2.out.2.trans (EmK.of_below (Below.refl _ _).drew hE2.out.1.base_le)⟩
    clear d0 v0 v1 e4 hE2 hbm2 hlt2 hbV2
    have HJs : Hid (∀ (ls : List LineL) (w : World), ls.length ≤ 1000000 → Em g bm base ls made [] w → Calls Tryz.prog 63 #[.pointer (some ⟨bm, 0, none⟩), .string ⟨#[115, 116, 111, 112]⟩] w (RetEm g bm base (ls ++ [⟨[], 10, 0, stopT, []⟩]) made [] w)) := Lib.hid fun ls w h1 h2 => HJ.out ls stopT w h1 h2
    go_wp2_with first
      | (go_at_call 40; (with_reducible refine (HP.out _ _ _ _ (by decide) (by have := HL.out; first | omega | (simp only [List.length_append, List.length_cons, List.length_nil]; omega)) hE3.out.1).mono ?_); rintro e w5 ⟨rfl, he, hk⟩
         replace hE3 := Lib.hid (And.intro he (hE3.out.2.trans hk))
         clear he hk)
      | (go_at_call 63; (with_reducible refine (HJs.out _ _ (by have := HL.out; first | omega | (simp only [List.length_append, List.length_cons, List.length_nil]; omega)) hE3.out.1).mono ?_); rintro e w5 ⟨rfl, he, hk⟩
         replace hE3 := Lib.hid (And.intro he (hE3.out.2.trans hk))
         clear he hk)
    go_end0
    refine ⟨rfl, ?_, hE3.out.2⟩
    have h9 := hE3.out.1
    simp only [List.append_assoc, List.cons_append, List.nil_append] at h9
    rw [show afterL g.env 3 o tk vn = [lnF 4 (g.env.dim vn), lnO 19, lnO 41, lnJ stopT, lnF 1 (g.env.off vn), lnO 10, lnF 3 0] from rfl, HDM.out, HAT.out]
    exact h9
  · have ho : o = 23 ∨ o = 24 ∨ o = 25 ∨ o = 26 := by omega
    clear hk1 hk2
    obtain rfl : K = 4 := by have := HKK.out; omega
    rcases ho with rfl | rfl | rfl | rfl
    · obtain rfl : O = 23 := by have := HOO.out; omega
      go_enter Tryz.func43, Tryz.ntmps43
      go_wp2_with first
        | (go_at_call 40; (with_reducible refine (HP.out _ _ _ _ (by decide) (by have := HL.out; first | omega | (simp only [List.length_append, List.length_cons, List.length_nil]; omega)) hE.out.1).mono ?_); rintro e w2 ⟨rfl, he, hk⟩
           replace hX := Lib.hid (hk.2 _ _ _ hX.out (by decide) hnb)
           replace hE := Lib.hid (And.intro he (hE.out.2.trans hk))
           have d1 := hX.out.cell 1
           simp at d1
           have hlt2 := hX.out.lt
           clear he hk)
      go_end0
      refine ⟨rfl, ?_, hE.out.2⟩
      have := hE.out.1
      try simp only [List.append_assoc] at this
      exact this
    · obtain rfl : O = 24 := by have := HOO.out; omega
      go_enter Tryz.func43, Tryz.ntmps43
      go_wp2_with first
        | (go_at_call 40; (with_reducible refine (HP.out _ _ _ _ (by decide) (by have := HL.out; first | omega | (simp only [List.length_append, List.length_cons, List.length_nil]; omega)) hE.out.1).mono ?_); rintro e w2 ⟨rfl, he, hk⟩
           replace hX := Lib.hid (hk.2 _ _ _ hX.out (by decide) hnb)
           replace hE := Lib.hid (And.intro he (hE.out.2.trans hk))
           have d1 := hX.out.cell 1
           simp at d1
           have hlt2 := hX.out.lt
           clear he hk)
      go_end0
      refine ⟨rfl, ?_, hE.out.2⟩
      have := hE.out.1
      try simp only [List.append_assoc] at this
      exact this
    · obtain rfl : O = 25 := by have := HOO.out; omega
      go_enter Tryz.func43, Tryz.ntmps43
      go_wp2_with first
        | (go_at_call 40; (with_reducible refine (HP.out _ _ _ _ (by decide) (by have := HL.out; first | omega | (simp only [List.length_append, List.length_cons, List.length_nil]; omega)) hE.out.1).mono ?_); rintro e w2 ⟨rfl, he, hk⟩
           replace hX := Lib.hid (hk.2 _ _ _ hX.out (by decide) hnb)
           replace hE := Lib.hid (And.intro he (hE.out.2.trans hk))
           have d1 := hX.out.cell 1
           simp at d1
           have hlt2 := hX.out.lt
           clear he hk)
      go_end0
      refine ⟨rfl, ?_, hE.out.2⟩
      have := hE.out.1
      try simp only [List.append_assoc] at this
      exact this
    · obtain rfl : O = 26 := by have := HOO.out; omega
      go_enter Tryz.func43, Tryz.ntmps43
      go_wp2_with first
        | (go_at_call 40; (with_reducible refine (HP.out _ _ _ _ (by decide) (by have := HL.out; first | omega | (simp only [List.length_append, List.length_cons, List.length_nil]; omega)) hE.out.1).mono ?_); rintro e w2 ⟨rfl, he, hk⟩
           replace hX := Lib.hid (hk.2 _ _ _ hX.out (by decide) hnb)
           replace hE := Lib.hid (And.intro he (hE.out.2.trans hk))
           have d1 := hX.out.cell 1
           simp at d1
           have hlt2 := hX.out.lt
           clear he hk)
      go_end0
      refine ⟨rfl, ?_, hE.out.2⟩
      have := hE.out.1
      try simp only [List.append_assoc] at this
      exact this
  · have ht : tk = 1 ∨ tk = 2 ∨ tk = 3 := by omega
    clear hk1 hk2
    obtain rfl : K = 6 := by have := HKK.out; omega
    obtain rfl : O = 0 := by have := HOO.out; omega
    rcases ht with rfl | rfl | rfl
    · obtain rfl : T = 1 := by have := HTT.out; omega
      go_enter Tryz.func43, Tryz.ntmps43
      go_wp2_with first
        | (go_at_call 40; (with_reducible refine (HP.out _ _ _ _ (by decide) (by have := HL.out; first | omega | (simp only [List.length_append, List.length_cons, List.length_nil]; omega)) hE.out.1).mono ?_); rintro e w2 ⟨rfl, he, hk⟩
           replace hX := Lib.hid (hk.2 _ _ _ hX.out (by decide) hnb)
           replace hE := Lib.hid (And.intro he (hE.out.2.trans hk))
           clear he hk)
      go_end0
      refine ⟨rfl, ?_, hE.out.2⟩
      have := hE.out.1
      try simp only [List.append_assoc] at this
      try rw [show afterL g.env 6 0 1 v = [] from rfl, List.append_nil]
      exact this
    · obtain rfl : T = 2 := by have := HTT.out; omega
      go_enter Tryz.func43, Tryz.ntmps43
      go_wp2_with first
        | (go_at_call 40; (with_reducible refine (HP.out _ _ _ _ (by decide) (by have := HL.out; first | omega | (simp only [List.length_append, List.length_cons, List.length_nil]; omega)) hE.out.1).mono ?_); rintro e w2 ⟨rfl, he, hk⟩
           replace hX := Lib.hid (hk.2 _ _ _ hX.out (by decide) hnb)
           replace hE := Lib.hid (And.intro he (hE.out.2.trans hk))
           clear he hk)
      go_end0
      refine ⟨rfl, ?_, hE.out.2⟩
      have := hE.out.1
      try simp only [List.append_assoc] at this
      try rw [show afterL g.env 6 0 1 v = [] from rfl, List.append_nil]
      exact this
    · obtain rfl : T = 3 := by have := HTT.out; omega
      go_enter Tryz.func43, Tryz.ntmps43
      go_wp2_with first
        | (go_at_call 40; (with_reducible refine (HP.out _ _ _ _ (by decide) (by have := HL.out; first | omega | (simp only [List.length_append, List.length_cons, List.length_nil]; omega)) hE.out.1).mono ?_); rintro e w2 ⟨rfl, he, hk⟩
           replace hX := Lib.hid (hk.2 _ _ _ hX.out (by decide) hnb)
           replace hE := Lib.hid (And.intro he (hE.out.2.trans hk))
           clear he hk)
      go_end0
      refine ⟨rfl, ?_, hE.out.2⟩
      have := hE.out.1
      try simp only [List.append_assoc] at this
      try rw [show afterL g.env 6 0 1 v = [] from rfl, List.append_nil]
      exact this
end Go.Proofs.YtbefmlioampgcaaGreatDoor
