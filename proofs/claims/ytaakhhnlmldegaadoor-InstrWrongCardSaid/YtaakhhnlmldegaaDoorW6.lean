
/- hexadecimal, walked. -/
import Derived.Test.YtaakhhnlmldegaaDoorW5
import Derived.Lib.OthersKept
import Derived.Laws.RangeAny
namespace Go.Proofs.YtaakhhnlmldegaaDoor
open Go.RowKit
set_option linter.unusedVariables false
set_option linter.unusedSimpArgs false

def isHexB (c : UInt8) : Bool := decide (48 ≤ c.toNat) && decide (c.toNat ≤ 57) || decide (65 ≤ c.toNat) && decide (c.toNat ≤ 70)
def hv (c : UInt8) : Nat := if c.toNat ≤ 57 then c.toNat - 48 else c.toNat - 55
def valL (b : Nat) (l : List UInt8) : Nat := l.foldl (fun t c => b * t + hv c) 0
theorem valL_snoc (b : Nat) (l : List UInt8) (c : UInt8) : valL b (l ++ [c]) = b * valL b l + hv c := by simp [valL]

theorem take_snoc (s : ByteArray) (k : Nat) (h : k < s.size) : s.data.toList.take (k + 1) = s.data.toList.take k ++ [s[k]] := by
  rw [List.take_succ_eq_append_getElem (by simpa using h)]; rfl

theorem all_snoc (s : ByteArray) (k : Nat) (h : k < s.size) (ha : (s.data.toList.take k).all isHexB = true) (hc : isHexB s[k] = true) : (s.data.toList.take (k + 1)).all isHexB = true := by
  rw [take_snoc s k h]; simp [ha, hc]
theorem all_not (s : ByteArray) (k : Nat) (h : k < s.size) (hc : isHexB s[k] = false) : s.data.toList.all isHexB = false := by
  rw [List.all_eq_false]
  exact ⟨s[k], by simp [ByteArray.getElem_eq_getElem_data], by simp [hc]⟩
theorem or16 (v d : Int) (d0 : 0 ≤ d) (d1 : d < 16) : bits .or .u32 (v * 16 % 4294967296) d = v * 16 % 4294967296 + d :=
  bits_join .u32 32 (by decide) (fun n a b => by rw [IntKind.wrap_u32]; omega) 4 _ d (by omega) (by omega) (by omega) d0 (by omega) (by omega)
theorem val_next (s : ByteArray) (pos v : Nat) (hp : pos < s.size) (hV : valL 16 (s.data.toList.take pos) % 4294967296 = v) : v * 16 % 4294967296 + hv s[pos] < 4294967296 → valL 16 (s.data.toList.take (pos + 1)) % 4294967296 = v * 16 % 4294967296 + hv s[pos] := by
  intro h
  rw [take_snoc s pos hp, valL_snoc]
  omega
theorem iterPos_at {w : World} {k : Nat} {s : ByteArray} {p : Nat} (h : w.heap[k]? = some (.stringIter s p)) : w.iterPos k = p := by simp [World.iterPos, h]

def HexPost (s : ByteArray) (w : World) (e : Ending) (w' : World) : Prop :=
  (s.data.toList.all isHexB = true ∧ e = .returned (.tuple #[.int .u32 ((valL 16 s.data.toList % 4294967296 : Nat) : Int), .bool ((s.size : Int) == 8)]) ∨
    s.data.toList.all isHexB = false ∧ e = .returned (.tuple #[.int .u32 0, .bool false])) ∧ Below w.heap.size w w'

theorem wHexa (s : ByteArray) (w : World) : Calls Tryd.prog 50 #[.string s] w (HexPost s w) := by
  go_enter Tryd.func50, Tryd.ntmps50
  go_wp2
  obtain ⟨wr, hw⟩ : ∃ wr, wr = w.iter s 0 := ⟨_, rfl⟩
  rw [← hw]
  have b0 : Below w.heap.size w wr := hw ▸ (Below.refl _ w).alloc (Nat.le_refl _) _
  have h0 : wr.heap[w.heap.size]? = some (.stringIter s 0) := hw ▸ World.iter_heap w s 0
  clear hw
  go_loopw [2] (fun v wr => ∃ pos : Nat, pos ≤ s.size ∧ wr.heap[w.heap.size]? = some (.stringIter s pos) ∧ Below w.heap.size w wr ∧ (s.data.toList.take pos).all isHexB = true ∧
      v = .int .u32 ((valL 16 (s.data.toList.take pos) % 4294967296 : Nat) : Int)) (fun _ wr => s.size - wr.iterPos w.heap.size)
  case atStart => exact ⟨0, Nat.zero_le _, h0, b0, rfl, rfl⟩
  case round =>
    clear b0 h0
    obtain ⟨pos, hpl, hit, hb, hall, rfl⟩ := hrel
    obtain ⟨v, hv'⟩ : ∃ v, valL 16 (s.data.toList.take pos) % 4294967296 = v := ⟨_, rfl⟩
    rw [hv']
    have hv32 : v < 4294967296 := by omega
    have Hv := Lib.hid hv'; clear hv'
    have Hall := Lib.hid hall; clear hall
    by_cases hp : pos < s.size
    · have hgr := Lib.below_iterAt hb (k := w.heap.size) (Nat.le_refl _) s (pos + 1)
      have hip := iterPos_at hit
      have hit2 := Lib.iterAt_heap wr w.heap.size s pos (pos + 1) hit
      have hip2 := iterPos_at hit2
      by_cases hd : (48 ≤ (s[pos]'hp).toNat ∧ (s[pos]'hp).toNat ≤ 57) ∨ (65 ≤ (s[pos]'hp).toNat ∧ (s[pos]'hp).toNat ≤ 70)
      · have hnx : ∀ ty, (Instr.next (.pointer (some ⟨w.heap.size, 0, none⟩)) true ty).run Tryd.prog wr = _ := fun ty => Lib.run_next_ascii_at wr w.heap.size s pos ty hit hp (by omega)
        have hx : isHexB (s[pos]'hp) = true := by
          unfold isHexB; simpa using hd
        have Hall2 := Lib.hid (all_snoc s pos hp Hall.out hx); clear hx
        obtain ⟨c, hc⟩ : ∃ c : Int, (((s[pos]'hp).toNat : Nat) : Int) = c := ⟨_, rfl⟩
        rw [hc] at hnx
        rcases hd with ⟨d0, d1⟩ | ⟨d0, d1⟩
        · have c0 : 48 ≤ c := by omega
          have c1 : c ≤ 57 := by omega
          have hor := or16 v (c - 48) (by omega) (by omega)
          have Hn : Hid (((valL 16 (s.data.toList.take (pos + 1)) % 4294967296 : Nat) : Int) = (v : Int) * 16 % 4294967296 + (c - 48)) := Lib.hid (by
            have e : hv (s[pos]'hp) = (s[pos]'hp).toNat - 48 := by unfold hv; rw [if_pos (by omega)]
            have := val_next s pos v hp Hv.out (by omega)
            rw [this, e]; omega)
          clear hc d0 d1
          go_wp2
          go_roundw
          case rel => exact ⟨pos + 1, hp, hit2, hgr, Hall2.out, by rw [Hn.out]⟩
          case measure => rw [hip, hip2]; omega
        · have c0 : 65 ≤ c := by omega
          have c1 : c ≤ 70 := by omega
          have c2 : ¬ c ≤ 57 := by omega
          have hor := or16 v (c - 65 + 10) (by omega) (by omega)
          have Hn : Hid (((valL 16 (s.data.toList.take (pos + 1)) % 4294967296 : Nat) : Int) = (v : Int) * 16 % 4294967296 + (c - 65 + 10)) := Lib.hid (by
            have e : hv (s[pos]'hp) = (s[pos]'hp).toNat - 55 := by unfold hv; rw [if_neg (by omega)]
            have := val_next s pos v hp Hv.out (by omega)
            rw [this, e]; omega)
          clear hc d0 d1
          go_wp2
          go_roundw
          case rel => exact ⟨pos + 1, hp, hit2, hgr, Hall2.out, by rw [Hn.out]⟩
          case measure => rw [hip, hip2]; omega
      · have hx : isHexB (s[pos]'hp) = false := by
          unfold isHexB; simp; omega
        have Hno := Lib.hid (all_not s pos hp hx); clear hx
        obtain ⟨c, p2, hc0, hcm, hc1, hc2, hnx⟩ : ∃ (c : Int) (p2 : Nat), 0 ≤ c ∧ c ≤ 2147483647 ∧ ¬ (48 ≤ c ∧ c ≤ 57) ∧ ¬ (65 ≤ c ∧ c ≤ 70) ∧
            ∀ ty, (Instr.next (.pointer (some ⟨w.heap.size, 0, none⟩)) true ty).run Tryd.prog wr = .ok (.tuple #[.bool true, .int .i64 pos, .int .i32 c]) (wr.iterAt w.heap.size s p2) := by
          by_cases h128 : (s[pos]'hp).toNat < 128
          · exact ⟨(s[pos]'hp).toNat, pos + 1, by omega, by omega, by omega, by omega, fun ty => Lib.run_next_ascii_at wr w.heap.size s pos ty hit hp h128⟩
          · have h1 := (decode_high s pos hp (by omega)).1
            have h2 := decode_le s pos
            exact ⟨((Utf8.decode s pos).1 : Nat), _, by omega, by omega, by omega, by omega, fun ty => Lib.run_next_any_at wr w.heap.size s pos ty hit hp⟩
        clear hd
        have hgr := Lib.below_iterAt hb (k := w.heap.size) (Nat.le_refl _) s p2
        rcases (by omega : (48 ≤ c ∧ 57 < c ∧ 65 ≤ c ∧ 70 < c) ∨ (48 ≤ c ∧ 57 < c ∧ c < 65) ∨ (c < 48 ∧ c < 65)) with ⟨q1, q2, q3, q4⟩ | ⟨q1, q2, q3⟩ | ⟨q1, q2⟩
        all_goals
          clear hc1 hc2 hip2 hit2
          go_wp2
          go_ret2
          exact ⟨.inr ⟨Hno.out, rfl⟩, hgr⟩
    · have hnx : ∀ ty, (Instr.next (.pointer (some ⟨w.heap.size, 0, none⟩)) true ty).run Tryd.prog wr = _ := fun ty => Lib.run_next_end_at wr w.heap.size s pos ty hit hp
      have Hl : Hid (s.data.toList.take pos = s.data.toList) := Lib.hid (List.take_of_length_le (by rw [Array.length_toList]; show s.size ≤ pos; omega))
      go_wp2
      go_ret2
      have hV := Hv.out
      rw [Hl.out] at hV
      refine ⟨.inl ⟨Hl.out ▸ Hall.out, ?_⟩, hb⟩
      rw [← hV]; rfl
end Go.Proofs.YtaakhhnlmldegaaDoor
