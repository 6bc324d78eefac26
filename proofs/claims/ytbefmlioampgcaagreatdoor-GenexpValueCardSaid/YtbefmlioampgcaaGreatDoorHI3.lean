/- The iterator over the operations' rows. -/
import Derived.Test.YtbefmlioampgcaaGreatDoorHK4
import Derived.Test.YtbefmlioampgcaaGreatDoorHK1
import Derived.Test.YtbefmlioampgcaaGreatDoorHK5
import Derived.BigQuiet
import Derived.IntWalk
namespace Go.Proofs.YtbefmlioampgcaaGreatDoor
open Go.RowKit Go.Shelf

def opsL : List UInt8 := [10, 48, 48, 32, 114, 101, 118, 32, 50, 50, 32, 32, 48, 49, 32, 108, 98, 32, 49, 49, 32, 32, 48, 50, 32, 98, 115, 117, 98, 32, 50, 49, 32, 32, 48, 51, 32, 101, 110, 100, 112, 32, 49, 48, 32, 32, 48, 52, 32, 100, 105, 102, 102, 32, 50, 49, 32, 32, 48, 53, 32, 97, 100, 100, 32, 50, 49, 32, 32, 48, 54, 32, 103, 99, 97, 108, 108, 32, 49, 49, 32, 32, 48, 55, 32, 105, 110, 32, 51, 48, 32, 32, 48, 56, 32, 112, 114, 111, 100, 32, 50, 49, 10, 48, 57, 32, 103, 116, 32, 50, 49, 32, 32, 48, 65, 32, 119, 115, 117, 98, 32, 50, 49, 32, 32, 48, 66, 32, 111, 117, 116, 32, 51, 48, 32, 32, 48, 67, 32, 115, 117, 98, 32, 50, 49, 32, 32, 48, 68, 32, 115, 116, 97, 114, 116, 112, 32, 50, 48, 32, 32, 48, 69, 32, 111, 117, 116, 98, 121, 116, 101, 32, 50, 48, 32, 32, 48, 70, 32, 111, 117, 116, 119, 111, 114, 100, 32, 50, 48, 32, 32, 49, 48, 32, 115, 101, 116, 101, 114, 114, 32, 48, 48, 10, 49, 50, 32, 114, 101, 115, 101, 116, 99, 104, 32, 49, 49, 32, 32, 49, 51, 32, 99, 115, 117, 98, 48, 32, 50, 49, 32, 32, 49, 53, 32, 115, 116, 111, 112, 112, 32, 48, 48, 32, 32, 49, 54, 32, 108, 97, 100, 100, 32, 51, 49, 32, 32, 49, 57, 32, 110, 111, 114, 109, 32, 50, 51, 32, 32, 49, 65, 32, 108, 100, 105, 118, 32, 51, 50, 32, 32, 49, 66, 32, 108, 100, 112, 105, 32, 49, 49, 32, 32, 49, 68, 32, 120, 100, 98, 108, 101, 32, 49, 50, 10, 49, 69, 32, 108, 100, 112, 114, 105, 32, 48, 49, 32, 32, 49, 70, 32, 114, 101, 109, 32, 50, 49, 32, 32, 50, 48, 32, 114, 101, 116, 32, 48, 48, 32, 32, 50, 49, 32, 108, 101, 110, 100, 32, 50, 48, 32, 32, 50, 50, 32, 108, 100, 116, 105, 109, 101, 114, 32, 48, 49, 32, 32, 50, 57, 32, 116, 101, 115, 116, 101, 114, 114, 32, 48, 49, 32, 32, 50, 66, 32, 116, 105, 110, 32, 49, 48, 32, 32, 50, 67, 32, 100, 105, 118, 32, 50, 49, 10, 50, 69, 32, 100, 105, 115, 116, 32, 51, 49, 32, 32, 50, 70, 32, 100, 105, 115, 99, 32, 51, 49, 32, 32, 51, 48, 32, 100, 105, 115, 115, 32, 50, 49, 32, 32, 51, 49, 32, 108, 109, 117, 108, 32, 51, 50, 32, 32, 51, 50, 32, 110, 111, 116, 32, 49, 49, 32, 32, 51, 51, 32, 120, 111, 114, 32, 50, 49, 32, 32, 51, 52, 32, 98, 99, 110, 116, 32, 49, 49, 32, 32, 51, 53, 32, 108, 115, 104, 114, 32, 51, 50, 32, 32, 51, 54, 32, 108, 115, 104, 108, 32, 51, 50, 10, 51, 55, 32, 108, 115, 117, 109, 32, 51, 50, 32, 32, 51, 56, 32, 108, 115, 117, 98, 32, 51, 49, 32, 32, 51, 57, 32, 114, 117, 110, 112, 32, 49, 48, 32, 32, 51, 65, 32, 120, 119, 111, 114, 100, 32, 50, 49, 32, 32, 51, 66, 32, 115, 98, 32, 50, 48, 32, 32, 51, 67, 32, 103, 97, 106, 119, 32, 49, 49, 32, 32, 51, 70, 32, 119, 99, 110, 116, 32, 49, 50, 32, 32, 52, 48, 32, 115, 104, 114, 32, 50, 49, 32, 32, 52, 49, 32, 115, 104, 108, 32, 50, 49, 10, 52, 50, 32, 109, 105, 110, 116, 32, 48, 49, 32, 32, 52, 51, 32, 97, 108, 116, 32, 48, 48, 32, 32, 52, 52, 32, 97, 108, 116, 119, 116, 32, 48, 48, 32, 32, 52, 53, 32, 97, 108, 116, 101, 110, 100, 32, 48, 48, 32, 32, 52, 54, 32, 97, 110, 100, 32, 50, 49, 32, 32, 52, 55, 32, 101, 110, 98, 116, 32, 50, 49, 32, 32, 52, 56, 32, 101, 110, 98, 99, 32, 50, 49, 32, 32, 52, 57, 32, 101, 110, 98, 115, 32, 49, 49, 32, 32, 52, 65, 32, 109, 111, 118, 101, 32, 51, 48, 10, 52, 66, 32, 111, 114, 32, 50, 49, 32, 32, 52, 67, 32, 99, 115, 110, 103, 108, 32, 50, 49, 32, 32, 52, 68, 32, 99, 99, 110, 116, 49, 32, 50, 49, 32, 32, 52, 69, 32, 116, 97, 108, 116, 32, 48, 48, 32, 32, 52, 70, 32, 108, 100, 105, 102, 102, 32, 51, 50, 32, 32, 53, 49, 32, 116, 97, 108, 116, 119, 116, 32, 48, 48, 32, 32, 53, 50, 32, 115, 117, 109, 32, 50, 49, 32, 32, 53, 51, 32, 109, 117, 108, 32, 50, 49, 10, 53, 52, 32, 115, 116, 116, 105, 109, 101, 114, 32, 49, 48, 32, 32, 53, 53, 32, 115, 116, 111, 112, 101, 114, 114, 32, 48, 48, 32, 32, 53, 54, 32, 99, 119, 111, 114, 100, 32, 50, 49, 32, 32, 53, 55, 32, 99, 108, 114, 104, 97, 108, 116, 101, 114, 114, 32, 48, 48, 32, 32, 53, 56, 32, 115, 101, 116, 104, 97, 108, 116, 101, 114, 114, 32, 48, 48, 32, 32, 53, 57, 32, 116, 101, 115, 116, 104, 97, 108, 116, 101, 114, 114, 32, 48, 49, 10]
/-- The fields of the table's text. -/
def opF : List (List UInt8) := tabO.flatMap fun r => [[dig (r.arg / 16), dig (r.arg % 16)], r.name, [dig r.takes, dig r.leaves]]
set_option maxRecDepth 100000 in
theorem fields_ops : Lib.fields opsL = opF := by decide +kernel
theorem opF_len : opF.length = 222 := by decide +kernel
theorem flat3 (f : IRow → List (List UInt8)) (h3 : ∀ r, (f r).length = 3) : ∀ (l : List IRow) (k : Nat) (r : IRow), l[k]? = some r → ∀ j, j < 3 → (l.flatMap f)[3 * k + j]? = (f r)[j]?
  | [], k, r, h, _, _ => by simp at h
  | x :: l, 0, r, h, j, hj => by
    simp at h; subst h
    rw [List.flatMap_cons, List.getElem?_append_left (by rw [h3]; omega)]; simp
  | x :: l, k + 1, r, h, j, hj => by
    rw [List.flatMap_cons, List.getElem?_append_right (by rw [h3]; omega), h3]
    have e : 3 * (k + 1) + j - 3 = 3 * k + j := by omega
    rw [e]
    exact flat3 f h3 l k r (by simpa using h) j hj
theorem opF_at {k : Nat} {r : IRow} (h : tabO[k]? = some r) : opF[3 * k]? = some [dig (r.arg / 16), dig (r.arg % 16)] ∧ opF[3 * k + 1]? = some r.name ∧ opF[3 * k + 2]? = some [dig r.takes, dig r.leaves] := by
  have h3 := flat3 (fun r => [[dig (r.arg / 16), dig (r.arg % 16)], r.name, [dig r.takes, dig r.leaves]]) (fun _ => rfl) tabO k r h
  exact ⟨h3 0 (by omega), h3 1 (by omega), h3 2 (by omega)⟩
def opFV : Array Value := (opF.map fun l => Value.string ⟨l.toArray⟩).toArray
theorem opFV_at {i : Nat} {l : List UInt8} (h : opF[i]? = some l) : opFV[i]? = some (.string (strB l)) := by
  simp [opFV, h]; rfl

def rowV (r : IRow) : Value := .agg #[.int .i32 r.arg, .string (strB r.name), .int .i64 r.takes, .int .i64 r.leaves]

/-- The table of blanks, as laid. -/
def Blanks (B : Nat) (w : World) : Prop := ∀ w', Below B w w' → Lib.TabIs Tryz.prog w' "strings.asciiSpace" .u8 Lib.asciiSpaceTab
theorem str_at {S : ByteArray} {i : Nat} {c : UInt8} (h : S.data[i]? = some c) (h0 : i < S.size) : S[i] = c := by
  rw [ByteArray.getElem_eq_getElem_data]
  have h1 : S.data[i]? = some S.data[i] := Array.getElem?_eq_getElem h0
  rw [h1] at h
  exact Option.some.inj h
theorem idigitq (d : Nat) (h : d < 16) (w : World) : Calls Tryz.prog 104 #[.int .u8 (dig d).toNat] w fun e w' => e = .returned (.int .i32 d) ∧ w' = w :=
  (idigit d h w).mono fun _ _ ⟨h1, h2⟩ => ⟨h1, h2.symm⟩
theorem ops_ascii : ∀ b ∈ opsL, b.toNat < 128 := by decide +kernel
theorem iFields (w : World) (hT : Lib.TabIs Tryz.prog w "strings.asciiSpace" .u8 Lib.asciiSpaceTab) :
    Calls Tryz.prog 109 #[.string ⟨opsL.toArray⟩] w fun e w' => e = .returned (.slice (some ⟨w.heap.size, 0, none⟩) 222 222) ∧ w' = w.alloc (.cells opFV 9) := by
  refine (Any.strings_Fields Tryz.lays157 (by kernel_rfl) (by kernel_rfl) ⟨opsL.toArray⟩ w (by decide +kernel) (fun j b h => ops_ascii b (List.mem_of_getElem? h)) hT).mono ?_
  rintro e w' ⟨rfl, rfl⟩
  have e1 : Lib.fields ((⟨opsL.toArray⟩ : ByteArray).data.toList) = opF := fields_ops
  rw [e1, opF_len]
  exact ⟨rfl, rfl⟩
set_option maxRecDepth 100000 in
set_option maxHeartbeats 5000000 in
theorem rows_iter (n : Nat) (X : Nat → Prop) (w0 : World) (hX : ∀ k, X k → k < w0.heap.size) (B : Nat) (hBl : Blanks B w0) (hB : B ≤ w0.heap.size) :
    SeqUntil Fence.wide n Tryz.prog 108 #[] (fun r : IRow => #[rowV r]) X tabO w0 := by
  intro l J Jx W hW hJ hJx hY h0
  have hT : Lib.TabIs Tryz.prog W "strings.asciiSpace" .u8 Lib.asciiSpaceTab := hBl W (hW.mono hB)
  have hF := Lib.hid (callsIn_wide (n := n - 1).2 (iFields W hT))
  have h0' := hJ _ _ _ h0 ((Below.refl W.heap.size W).alloc (Nat.le_refl _) (.cells opFV 9))
  have hbl : Blk (W.alloc (.cells opFV 9)) W.heap.size 9 opFV := Blk.new W _ _
  have hWs := hW.size
  clear hT hBl
  refine callsIn_of_wp Tryz.func108 rfl trivial ?_ rfl
  simp only [Tryz.ntmps108, List.size_toArray, List.length_cons, List.length_nil, Nat.reduceAdd, Nat.reduceSub, Array.replicate_succ, Array.replicate_zero, List.push_toArray, List.append_toArray, List.nil_append, List.cons_append]
  have HY := Lib.hid hY; clear hY
  have HJ := Lib.hid hJ; clear hJ
  have HJx := Lib.hid hJx; clear hJx
  gi_wp2_with (refine ⟨trivial, fun h => (by cases h), hF.out.mono ?_⟩; rintro e w1 ⟨rfl, rfl⟩)
  obtain ⟨W1, hW1⟩ : ∃ W1, W.alloc (.cells opFV 9) = W1 := ⟨_, rfl⟩
  have hsz1 : W.heap.size < W1.heap.size := by rw [← hW1]; simp
  rw [hW1] at h0' hbl ⊢
  clear hW1 hF
  gi_loopw [3] (fun p wr => ∃ k i : Nat, k ≤ 74 ∧ Hid (i = 3 * k) ∧ i ≤ 222 ∧ p = .int .i64 (i : Int) ∧ Hid (J (tabO.take k) wr) ∧ Blk wr W.heap.size 9 opFV) (fun p _ => 222 - (intOf p).toNat)
  case atStart => exact ⟨0, 0, by omega, rfl, by omega, rfl, Lib.hid h0', hbl⟩
  case round =>
    clear h0' hbl hsz1
    obtain ⟨k, i, hk, Hi, hi, rfl, HJk, hbl⟩ := hrel
    have hgl := hbl.lt
    by_cases hlt : k < 74
    · obtain ⟨r, hr⟩ : ∃ r, tabO[k]? = some r := ⟨_, List.getElem?_eq_getElem (by rw [tabO_len]; exact hlt)⟩
      obtain ⟨o1, o2, o3⟩ := opF_at hr
      have hi2 : i + 2 < 222 := by have := Hi.out; omega
      have hi2I : (i : Int) + 2 < 222 := by omega
      rw [← Hi.out] at o1 o2 o3
      have c0 := hbl.cell i
      have c1 := hbl.cell (i + 1)
      have c2 := hbl.cell (i + 2)
      rw [opFV_at o1] at c0
      rw [opFV_at o2] at c1
      rw [opFV_at o3] at c2
      obtain ⟨hm15, hm256, -, -, hm12, hmt, hml, -⟩ := tabO_ok r (List.mem_of_getElem? hr)
      have HR := Lib.hid hr
      have ha : r.arg / 16 < 16 := by omega
      have hb : r.arg % 16 < 16 := by omega
      have hab : 16 * ((r.arg / 16 : Nat) : Int) + ((r.arg % 16 : Nat) : Int) = (r.arg : Int) := by omega
      have hV : rowV r = .agg #[.int .i32 r.arg, .string (strB r.name), .int .i64 r.takes, .int .i64 r.leaves] := rfl
      have HV := Lib.hid hV
      clear hV
      have x0 : (strB [dig (r.arg / 16), dig (r.arg % 16)]).size = 2 ∧ (strB [dig (r.arg / 16), dig (r.arg % 16)]).data[0]? = some (dig (r.arg / 16)) ∧ (strB [dig (r.arg / 16), dig (r.arg % 16)]).data[1]? = some (dig (r.arg % 16)) := ⟨rfl, rfl, rfl⟩
      have y0 : (strB [dig r.takes, dig r.leaves]).size = 2 ∧ (strB [dig r.takes, dig r.leaves]).data[0]? = some (dig r.takes) ∧ (strB [dig r.takes, dig r.leaves]).data[1]? = some (dig r.leaves) := ⟨rfl, rfl, rfl⟩
      generalize strB [dig (r.arg / 16), dig (r.arg % 16)] = S1 at *
      generalize strB [dig r.takes, dig r.leaves] = S2 at *
      generalize strB r.name = NM at *
      obtain ⟨x1, x2, x3⟩ := x0
      obtain ⟨y1, y2, y3⟩ := y0
      have hx0 : 0 < S1.size := by omega
      have hx1 : 1 < S1.size := by omega
      have hy0 : 0 < S2.size := by omega
      have hy1 : 1 < S2.size := by omega
      have X0 : S1[0] = dig (r.arg / 16) := str_at x2 hx0
      have X1 : S1[1] = dig (r.arg % 16) := str_at x3 hx1
      have Y0 : S2[0] = dig r.takes := str_at y2 hy0
      have Y1 : S2[1] = dig r.leaves := str_at y3 hy1
      generalize r.arg / 16 = da at *
      generalize r.arg % 16 = db at *
      generalize r.takes = dt at *
      generalize r.leaves = dl at *
      generalize r.arg = ra at *
      have hdt : dt < 16 := by omega
      have hdl : dl < 16 := by omega
      have w1 : IntKind.i64.wrap ((i : Int) + 1) = (i : Int) + 1 := IntWalk.i64_in _ (by omega)
      have w2 : IntKind.i64.wrap ((i : Int) + 2) = (i : Int) + 2 := IntWalk.i64_in _ (by omega)
      have w3 : IntKind.i32.wrap (16 * (da : Int)) = 16 * (da : Int) := IntWalk.i32_in _ (by omega)
      have w4 : IntKind.i32.wrap (16 * (da : Int) + (db : Int)) = 16 * (da : Int) + (db : Int) := IntWalk.i32_in _ (by omega)
      have n1 : ((i : Int) + 1).toNat = i + 1 := by omega
      have n2 : ((i : Int) + 2).toNat = i + 2 := by omega
      have p1 : (0 : Int) ≤ (i : Int) + 1 := by omega
      have p2 : (0 : Int) ≤ (i : Int) + 2 := by omega
      have p3 : (i : Int) + 1 < 222 := by omega
      have p4 : (i : Int) < 222 := by omega
      clear o1 o2 o3 x1 x2 x3 y1 y2 y3 hr
      have hD := Lib.hid (fun d (h : d < 16) w => idigitq d h w)
      gi_wp2
      refine wpIn_wide_of_wp ?_
      have hw2 : ∃ W2, wr.drew.alloc (.cells #[.int .i32 0, .string ⟨#[]⟩, .int .i64 0, .int .i64 0] 135) = W2 := ⟨_, rfl⟩
      obtain ⟨W2, hW2⟩ := hw2
      have hb2 : Blk W2 W.heap.size 9 opFV := hW2 ▸ (hbl.drew.alloc _)
      have hs2 : W2.heap.size = wr.heap.size + 1 := by rw [← hW2]; simp
      obtain ⟨W3, hW3⟩ : ∃ W3, (((W2.setCell ⟨wr.heap.size, 0, none⟩ (.int .i32 ra)).setCell ⟨wr.heap.size, 1, none⟩ (.string NM)).setCell ⟨wr.heap.size, 2, none⟩ (.int .i64 dt)).setCell ⟨wr.heap.size, 3, none⟩ (.int .i64 dl) = W3 := ⟨_, rfl⟩
      have hb3 : Blk W3 W.heap.size 9 opFV := by
        rw [← hW3]
        exact (((hb2.far (p := ⟨wr.heap.size, 0, none⟩) (by simp; omega) _).far (p := ⟨wr.heap.size, 1, none⟩) (by simp; omega) _).far (p := ⟨wr.heap.size, 2, none⟩) (by simp; omega) _).far (p := ⟨wr.heap.size, 3, none⟩) (by simp; omega) _
      have e0 := (hb2.cell i).trans ((hbl.cell i).symm.trans c0)
      have e1 := (hb2.cell (i + 1)).trans ((hbl.cell (i + 1)).symm.trans c1)
      have e2 := (hb2.cell (i + 2)).trans ((hbl.cell (i + 2)).symm.trans c2)
      have g0 := (hb3.cell i).trans ((hbl.cell i).symm.trans c0)
      have g1 := (hb3.cell (i + 1)).trans ((hbl.cell (i + 1)).symm.trans c1)
      have g2 := (hb3.cell (i + 2)).trans ((hbl.cell (i + 2)).symm.trans c2)
      refine wp_region_quiet_new (mm := 53) (A := ?A) (p := .pointer (some ⟨wr.heap.size, 0, none⟩)) (w2 := W2) (w3 := (((W2.setCell ⟨wr.heap.size, 0, none⟩ (.int .i32 ra)).setCell ⟨wr.heap.size, 1, none⟩ (.string NM)).setCell ⟨wr.heap.size, 2, none⟩ (.int .i64 dt)).setCell ⟨wr.heap.size, 3, none⟩ (.int .i64 dl)) 36 (by kernel_rfl) ?hsz ?hB rfl (by kernel_rfl) rfl rfl rfl rfl (by kernel_rfl) ?hrA ?hrS ?h1 ?h2 ?h3 ?hend
      case hsz => rfl
      case hB => kernel_rfl
      case h1 =>
        simp only [List.take_succ_cons, List.take_zero]
        repeat (first
          | go_big_quiet_step (fail)
          | (go_big_quiet_want; go_big_quiet_op; apply Exists.intro; refine ⟨?_, ?_⟩; (exact hD.out _ (by assumption) _); go_big_quiet_on))
        refine wpQuiet_nil ?_
        rfl
      case hrA => intro a; rw [← hW2]; simp [go_sem]
      case h2 =>
        clear c0 c1 c2
        simp only [List.take_succ_cons, List.take_zero]
        repeat (first
          | go_big_quiet_step (fail)
          | (go_big_quiet_want; go_big_quiet_op; apply Exists.intro; refine ⟨?_, ?_⟩; (exact hD.out _ (by assumption) _); go_big_quiet_on))
        refine wpQuiet_nil ?_
        rfl
      case h3 =>
        rw [hW3]
        clear c0 c1 c2 e0 e1 e2
        simp only [List.take_succ_cons, List.take_zero]
        repeat (first
          | go_big_quiet_step (fail)
          | (go_big_quiet_want; go_big_quiet_op; apply Exists.intro; refine ⟨?_, ?_⟩; (exact hD.out _ (by assumption) _); go_big_quiet_on))
        refine wpQuiet_nil ?_
        rfl
      case hrS =>
        rw [← hW2]
        simp [go_sem]
      case hend =>
        have bR : Blk W3 wr.heap.size 135 #[.int .i32 ra, .string NM, .int .i64 dt, .int .i64 dl] := by
          have h := Blk.new wr.drew 135 #[.int .i32 0, .string ⟨#[]⟩, .int .i64 0, .int .i64 0]
          rw [hW2] at h
          have h4 := (((h.set_ 0 (.int .i32 ra)).set_ 1 (.string NM)).set_ 2 (.int .i64 dt)).set_ 3 (.int .i64 dl)
          have h5 : Blk W3 wr.heap.size _ _ := hW3 ▸ h4
          simpa using h5
        have kB3 : Below wr.heap.size wr W3 := by
          rw [← hW3, ← hW2]
          exact ((((((Below.refl _ wr).drew).alloc (Nat.le_refl _) _).setCell (by simp) _).setCell (by simp) _).setCell (by simp) _).setCell (by simp) _
        have HJ3 := Lib.hid (HJ.out _ _ _ HJk.out (kB3.mono (by omega)))
        have hs3 := kB3.size
        have hs4 := bR.lt
        obtain ⟨rr, hrr⟩ : ∃ rr, tabO = tabO.take k ++ r :: rr := by
          obtain ⟨h, hr⟩ := List.getElem?_eq_some_iff.1 HR.out
          refine ⟨tabO.drop (k + 1), ?_⟩
          conv => lhs; rw [← List.take_append_drop k tabO, List.drop_eq_getElem_cons h, hr]
        have htk : tabO.take k ++ [r] = tabO.take (k + 1) := by
          obtain ⟨h, hr⟩ := List.getElem?_eq_some_iff.1 HR.out
          rw [List.take_succ_eq_append_getElem h, hr]
        obtain ⟨fn, tmps, assign, body, hy, hR⟩ := HY.out (tabO.take k) r rr W3 HJ3.out hrr
        rw [HV.out] at hy
        have HRR := Lib.hid hrr
        have HTK := Lib.hid htk
        have HRd := Lib.hid hR
        have q0 := bR.cell 0
        have q1 := bR.cell 1
        have q2 := bR.cell 2
        have q3 := bR.cell 3
        simp at q0 q1 q2 q3
        rw [hW3]
        clear hrr htk hR HV hD c0 c1 c2 e0 e1 e2 g0 g1 g2 hb2 hW2 hs2 hW3 X0 X1 Y0 Y1 hab HJk w1 w2 w3 w4 n1 n2 p1 p2 p3 p4
        simp only [Act.put, List.setIfInBounds_toArray, List.set_cons_succ, List.set_cons_zero]
        gi_wp2
        refine ⟨by simp [Fence.wide], HRd.out.mono ?_⟩
        rintro e w1 (⟨rfl, hJ1, kx⟩ | ⟨rfl, hJx1⟩)
        · have hXW : ¬ X W.heap.size := fun h => by have := hX _ h; have := hW.size; omega
          have hbl1 : Blk w1 W.heap.size 9 opFV := kx.block _ _ _ _ hXW hb3
          rw [HTK.out] at hJ1
          have HJ1 := Lib.hid hJ1
          clear hJ1 kx hb3 bR kB3 HJ3 q0 q1 q2 q3 hbl
          have w5 : (i : Int) + 3 ≤ 225 := by omega
          gi_wp2
          go_roundw
          case rel => exact ⟨k + 1, i + 3, by omega, Lib.hid (by have := Hi.out; omega), by omega, by go_num, HJ1, hbl1⟩
          case measure => simp [intOf]; omega
        · have HJx1 := Lib.hid hJx1
          clear hJx1 hb3 bR kB3 HJ3 q0 q1 q2 q3 hbl
          gi_wp2
          refine bodyPost_ret (results_none rfl _ _ _) rfl ?_
          exact ⟨⟨_, rfl⟩, .inr ⟨_, _, _, HRR.out, HJx1.out⟩⟩
    · have hI2 : ¬ (i : Int) + 2 < 222 := by have := Hi.out; omega
      have hk74 : k = 74 := by omega
      have HJ74 : Hid (J tabO wr) := by
        have h := HJk.out
        rw [List.take_of_length_le (by rw [tabO_len]; omega)] at h
        exact Lib.hid h
      clear hk74 HJk
      gi_wp2
      go_end0
      exact ⟨⟨_, rfl⟩, .inl HJ74.out⟩
end Go.Proofs.YtbefmlioampgcaaGreatDoor
