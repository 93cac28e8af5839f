/- Texts of the walk, joined. -/
import Derived.Test.YtnnkkgglfajmhaaGreatM07
import Derived.Test.YtnnkkgglfajmhaaGreatM10
import Derived.Test.YtnnkkgglfajmhaaGreatM11
import Derived.Test.YtnnkkgglfajmhaaGreatM12
import Derived.Below
import Derived.BigRegion
import Derived.Deep.RegionWith
import Derived.Laws.RangeAny
import Derived.Lib.Bytealg
import Derived.Lib.RuneCountTail
set_option maxRecDepth 100000
set_option maxHeartbeats 8000000
namespace Go.Proofs.YtnnkkgglfajmhaaGreat
section
namespace Esc
def digitsSmall : List UInt8 := [48, 49, 50, 51, 52, 53, 54, 55, 56, 57, 97, 98, 99, 100, 101, 102]
def hexd (k : Nat) : UInt8 := digitsSmall.getD k 0
def letter (b : UInt8) : Option UInt8 :=
 if b = 34 then some 34 else if b = 92 then some 92 else if b = 8 then some 98 else if b = 12 then some 102
 else if b = 10 then some 110 else if b = 13 then some 114 else if b = 9 then some 116 else none
def esc1 (b : UInt8) : List UInt8 :=
 match letter b with
 | some x => [92, x]
 | none => if b.toNat < 32 then [92, 117, 48, 48, hexd (b.toNat / 16), hexd (b.toNat % 16)] else [b]
def write (l : List UInt8) : List UInt8 := l.flatMap esc1
theorem esc1_length (b : UInt8) : (esc1 b).length ≤ 6 := by
 unfold esc1
 split
 ·simp
 ·split <;> simp
theorem decode_bytes (s : ByteArray) (pos : Nat) (h : pos < s.size) (ha : 128 ≤ (s[pos]'h).toNat) :
  pos + (Utf8.decode s pos).2 ≤ s.size ∧ ∀ j (hj : pos + j < s.size), j < (Utf8.decode s pos).2 → 128 ≤ (s[pos + j]'hj).toNat := by
 have hg : ∀ k (hk : pos + k < s.size), s.get! (pos + k) = s[pos + k]'hk := by
  intro k hk
  show s.get! (pos + k) = _
  simp [ByteArray.get!, getElem!_pos, hk]
  rfl
 have h0 : s.get! (pos + 0) = s[pos]'h := hg 0 h
 have one : pos + 1 ≤ s.size ∧ ∀ j (hj : pos + j < s.size), j < 1 → 128 ≤ (s[pos + j]'hj).toNat := by
  refine ⟨by omega, fun j hj h1 => ?_⟩
  obtain rfl : j = 0 := by omega
  exact ha
 have cont : ∀ k, (decide (pos + k < s.size) && (s.get! (pos + k)).toNat / 64 == 2) = true → pos + k < s.size ∧ ∀ hk : pos + k < s.size, 128 ≤ (s[pos + k]'hk).toNat := by
  intro k hk
  rw [Bool.and_eq_true, decide_eq_true_eq, beq_iff_eq] at hk
  refine ⟨hk.1, fun h2 => ?_⟩
  rw [hg k h2] at hk
  omega
 unfold Utf8.decode
 simp only [h0]
 rw [if_neg (by omega)]
 split
 ·rename_i hc
  rw [Bool.and_eq_true] at hc
  obtain ⟨c1, d1⟩ := cont 1 hc.2
  split
  ·refine ⟨by dsimp only; omega, fun j hj hlt => ?_⟩
   rcases (show j = 0 ∨ j = 1 by dsimp only at hlt; omega) with rfl | rfl
   ·exact ha
   ·exact d1 hj
  ·exact one
 ·split
  ·rename_i hc
   rw [Bool.and_eq_true, Bool.and_eq_true] at hc
   obtain ⟨c1, d1⟩ := cont 1 hc.1.2
   obtain ⟨c2, d2⟩ := cont 2 hc.2
   split
   ·refine ⟨by dsimp only; omega, fun j hj hlt => ?_⟩
    rcases (show j = 0 ∨ j = 1 ∨ j = 2 by dsimp only at hlt; omega) with rfl | rfl | rfl
    ·exact ha
    ·exact d1 hj
    ·exact d2 hj
   ·exact one
  ·split
   ·rename_i hc
    rw [Bool.and_eq_true, Bool.and_eq_true, Bool.and_eq_true] at hc
    obtain ⟨c1, d1⟩ := cont 1 hc.1.1.2
    obtain ⟨c2, d2⟩ := cont 2 hc.1.2
    obtain ⟨c3, d3⟩ := cont 3 hc.2
    split
    ·refine ⟨by dsimp only; omega, fun j hj hlt => ?_⟩
     rcases (show j = 0 ∨ j = 1 ∨ j = 2 ∨ j = 3 by dsimp only at hlt; omega) with rfl | rfl | rfl | rfl
     ·exact ha
     ·exact d1 hj
     ·exact d2 hj
     ·exact d3 hj
    ·exact one
   ·exact one
end Esc
end
section
open Go.RowKit
namespace Esc
def shortSigns : List UInt8 := [34, 92, 8, 12, 10, 13, 9]
def letterIdx (x : UInt8) : Bool :=
 match letter x with
 | none => Lib.indexByte shortSigns x == -1
 | some y => decide (0 ≤ Lib.indexByte shortSigns x) && decide (Lib.indexByte shortSigns x < 7) && ([34, 92, 98, 102, 110, 114, 116][(Lib.indexByte shortSigns x).toNat]? == some y)
theorem letter_idx : ∀ n : Fin 256, letterIdx (UInt8.ofNat n.val) = true := by decide +kernel
theorem letter_idx' (x : UInt8) : letterIdx x = true := by
 have h1 := letter_idx ⟨x.toNat, x.toNat_lt⟩
 have e : UInt8.ofNat x.toNat = x := by simp
 simpa only [e] using h1
theorem letter_none (x : UInt8) (h : letter x = none) : Lib.indexByte shortSigns x = -1 := by
 have h1 := letter_idx' x
 simp only [letterIdx, h] at h1
 exact beq_iff_eq.1 h1
theorem letter_some (x y : UInt8) (h : letter x = some y) : ∃ j : Nat, j < 7 ∧ Lib.indexByte shortSigns x = (j : Int) ∧ [34, 92, 98, 102, 110, 114, 116][j]? = some y := by
 have h1 := letter_idx' x
 simp only [letterIdx, h, Bool.and_eq_true, decide_eq_true_eq, beq_iff_eq] at h1
 obtain ⟨⟨h2, h3⟩, h4⟩ := h1
 exact ⟨_, by omega, by omega, h4⟩
theorem idxr_any (x : UInt8) (n : Int) (w : World) (h : x.toNat < 128) (hn : Lib.indexByte shortSigns x = n) :
  Calls Tryz.prog 163 #[.string ⟨#[34, 92, 8, 12, 10, 13, 9]⟩, .int .i32 (x.toNat : Int)] w fun e w' => e = .returned (.int .i64 n) ∧ w = w' := by
 refine (Tryz.strings_IndexRune_ascii ⟨#[34, 92, 8, 12, 10, 13, 9]⟩ (x.toNat : Int) w (by omega) (by omega)).mono ?_
 rintro e w' ⟨rfl, rfl⟩
 refine ⟨?_, rfl⟩
 rw [← hn, Int.toNat_natCast, show x.toNat.toUInt8 = x by simp]
 rfl
theorem first_of (s : ByteArray) (k : Nat) (h : k < s.size) : (s.extract k s.size).data.toList[0]? = some (s[k]'h) := by
 have h2 : k < s.data.toList.length := by rw [Array.length_toList]; exact h
 rw [ByteArray.data_extract, Array.toList_extract, List.extract_eq_take_drop, List.getElem?_take, if_pos (by omega), List.getElem?_drop, Nat.add_zero, List.getElem?_eq_getElem h2]
 rfl
theorem wsT (B : Nat) (acc : List UInt8) (s : ByteArray) (t : List UInt8) (w : World) (h : Lib.IsBuilderF 77 5 B B (Lib.byteCells acc) w) (hlen : acc.length + t.length ≤ 10000000) (hBw : B ≤ w.heap.size) (ht : s.data.toList = t) :
  Calls Tryz.prog 45 #[.pointer (some ⟨B, 0, none⟩), .string s] w fun e w' => e = .returned (.tuple #[.int .i64 s.size, .nilIface]) ∧ Lib.IsBuilderF 77 5 B B (Lib.byteCells (acc ++ t)) w' ∧ Below B w w' ∧ Lib.OthersKept 5 (some B) w w' := by
 subst ht
 exact Bld.ws B B acc s w h (by rw [Array.length_toList] at hlen; exact hlen) hBw
theorem hexd_ext (j : Nat) (hj : j < 16) : (⟨digitsSmall.toArray⟩ : ByteArray).extract j (j + 1) = ⟨#[hexd j]⟩ := by
 rcases (show j = 0 ∨ j = 1 ∨ j = 2 ∨ j = 3 ∨ j = 4 ∨ j = 5 ∨ j = 6 ∨ j = 7 ∨ j = 8 ∨ j = 9 ∨ j = 10 ∨ j = 11 ∨ j = 12 ∨ j = 13 ∨ j = 14 ∨ j = 15 by omega) with rfl | rfl | rfl | rfl | rfl | rfl | rfl | rfl | rfl | rfl | rfl | rfl | rfl | rfl | rfl | rfl <;> rfl
theorem ext_one (s : ByteArray) (k : Nat) (h : k < s.size) : (s.extract k (k + 1)).data.toList = [s[k]'h] := by
 rw [ByteArray.data_extract, Array.toList_extract, List.extract_eq_take_drop, Mem.drop_one s k h, show k + 1 - k = 1 by omega]
 rfl
end Esc
end
end Go.Proofs.YtnnkkgglfajmhaaGreat
