/- Texts of the walk, joined. -/
import Derived.Test.YthnbpnfaghjamaaGreatZXtra
import Derived.Below
import Derived.Lib.Bytealg
import Derived.Laws.RangeAny
import Derived.Test.YthnbpnfaghjamaaGreatK40
import Derived.Test.YthnbpnfaghjamaaGreatK12
import Derived.Test.YthnbpnfaghjamaaGreatK16
import Derived.Test.YthnbpnfaghjamaaGreatK06
import Derived.Lib.RuneCountTail
import Derived.Deep.RegionWith
import Derived.BigRegion
/- escape.Write in plain Lean: byte by byte. No program in sight. -/
namespace Go.Proofs.YthnbpnfaghjamaaGreat
namespace Esc
def digitsSmall : List UInt8 := [48, 49, 50, 51, 52, 53, 54, 55, 56, 57, 97, 98, 99, 100, 101, 102]
def hexd (k : Nat) : UInt8 := digitsSmall.getD k 0
def letter (b : UInt8) : Option UInt8 :=
 if b = 34 then some 34 else if b = 92 then some 92 else if b = 8 then some 98 else if b = 12 then some 102
 else if b = 10 then some 110 else if b = 13 then some 114 else if b = 9 then some 116 else none
def esc1 (b : UInt8) : List UInt8 :=
 match letter b with
 | some x => [92, x]
 | none => if b.toNat < 32 then [92, 117, 48, 48, hexd (b.toNat / 16), hexd (b.toNat % 16)] else [b]
def write (l : List UInt8) : List UInt8 := l.flatMap esc1
theorem letter_high (b : UInt8) (h : 128 ≤ b.toNat) : letter b = none := by
 have hn : ∀ c : UInt8, c.toNat < 128 → ¬ b = c := by rintro c hc rfl; omega
 unfold letter
 rw [if_neg (hn _ (by decide)), if_neg (hn _ (by decide)), if_neg (hn _ (by decide)), if_neg (hn _ (by decide)), if_neg (hn _ (by decide)), if_neg (hn _ (by decide)), if_neg (hn _ (by decide))]
theorem esc1_high (b : UInt8) (h : 128 ≤ b.toNat) : esc1 b = [b] := by
 rw [esc1, letter_high b h]
 simp only []
 rw [if_neg (by omega)]
theorem write_high : ∀ l : List UInt8, (∀ b ∈ l, 128 ≤ b.toNat) → write l = l
 | [], _ => rfl
 | b :: l, h => by
  have ih := write_high l fun c hc => h c (by simp [hc])
  unfold write at ih ⊢
  rw [List.flatMap_cons, esc1_high b (h b (by simp)), ih]
  rfl
theorem write_append (a b : List UInt8) : write (a ++ b) = write a ++ write b := List.flatMap_append
theorem esc1_length (b : UInt8) : (esc1 b).length ≤ 6 := by
 unfold esc1
 split
 ·simp
 ·split <;> simp
theorem decode_bytes (s : ByteArray) (pos : Nat) (h : pos < s.size) (ha : 128 ≤ (s[pos]'h).toNat) :
  pos + (Utf8.decode s pos).2 ≤ s.size ∧ ∀ j (hj : pos + j < s.size), j < (Utf8.decode s pos).2 → 128 ≤ (s[pos + j]'hj).toNat := by
 have hg : ∀ k (hk : pos + k < s.size), s.get! (pos + k) = s[pos + k]'hk := by
  intro k hk
  show s.get! (pos + k) = _
  simp [ByteArray.get!, getElem!_pos, hk]
  rfl
 have h0 : s.get! (pos + 0) = s[pos]'h := hg 0 h
 have one : pos + 1 ≤ s.size ∧ ∀ j (hj : pos + j < s.size), j < 1 → 128 ≤ (s[pos + j]'hj).toNat := by
  refine ⟨by omega, fun j hj h1 => ?_⟩
  obtain rfl : j = 0 := by omega
  exact ha
 have cont : ∀ k, (decide (pos + k < s.size) && (s.get! (pos + k)).toNat / 64 == 2) = true → pos + k < s.size ∧ ∀ hk : pos + k < s.size, 128 ≤ (s[pos + k]'hk).toNat := by
  intro k hk
  rw [Bool.and_eq_true, decide_eq_true_eq, beq_iff_eq] at hk
  refine ⟨hk.1, fun h2 => ?_⟩
  rw [hg k h2] at hk
  omega
 unfold Utf8.decode
 simp only [h0]
 rw [if_neg (by omega)]
 split
 ·rename_i hc
  rw [Bool.and_eq_true] at hc
  obtain ⟨c1, d1⟩ := cont 1 hc.2
  split
  ·refine ⟨by dsimp only; omega, fun j hj hlt => ?_⟩
   rcases (show j = 0 ∨ j = 1 by dsimp only at hlt; omega) with rfl | rfl
   ·exact ha
   ·exact d1 hj
  ·exact one
 ·split
  ·rename_i hc
   rw [Bool.and_eq_true, Bool.and_eq_true] at hc
   obtain ⟨c1, d1⟩ := cont 1 hc.1.2
   obtain ⟨c2, d2⟩ := cont 2 hc.2
   split
   ·refine ⟨by dsimp only; omega, fun j hj hlt => ?_⟩
    rcases (show j = 0 ∨ j = 1 ∨ j = 2 by dsimp only at hlt; omega) with rfl | rfl | rfl
    ·exact ha
    ·exact d1 hj
    ·exact d2 hj
   ·exact one
  ·split
   ·rename_i hc
    rw [Bool.and_eq_true, Bool.and_eq_true, Bool.and_eq_true] at hc
    obtain ⟨c1, d1⟩ := cont 1 hc.1.1.2
    obtain ⟨c2, d2⟩ := cont 2 hc.1.2
    obtain ⟨c3, d3⟩ := cont 3 hc.2
    split
    ·refine ⟨by dsimp only; omega, fun j hj hlt => ?_⟩
     rcases (show j = 0 ∨ j = 1 ∨ j = 2 ∨ j = 3 by dsimp only at hlt; omega) with rfl | rfl | rfl | rfl
     ·exact ha
     ·exact d1 hj
     ·exact d2 hj
     ·exact d3 hj
    ·exact one
   ·exact one
end Esc
end Go.Proofs.YthnbpnfaghjamaaGreat

/- escape.Write: it returns 'Esc.write' of its bytes. -/
namespace Go.Proofs.YthnbpnfaghjamaaGreat
open Go.RowKit
namespace Esc
def shortSigns : List UInt8 := [34, 92, 8, 12, 10, 13, 9]
def letterIdx (x : UInt8) : Bool :=
 match letter x with
 | none => Lib.indexByte shortSigns x == -1
 | some y => decide (0 ≤ Lib.indexByte shortSigns x) && decide (Lib.indexByte shortSigns x < 7) && ([34, 92, 98, 102, 110, 114, 116][(Lib.indexByte shortSigns x).toNat]? == some y)
theorem letter_idx : ∀ n : Fin 256, letterIdx (UInt8.ofNat n.val) = true := by decide +kernel
theorem letter_idx' (x : UInt8) : letterIdx x = true := by
 have h1 := letter_idx ⟨x.toNat, x.toNat_lt⟩
 have e : UInt8.ofNat x.toNat = x := by simp
 simpa only [e] using h1
theorem letter_none (x : UInt8) (h : letter x = none) : Lib.indexByte shortSigns x = -1 := by
 have h1 := letter_idx' x
 simp only [letterIdx, h] at h1
 exact beq_iff_eq.1 h1
theorem letter_some (x y : UInt8) (h : letter x = some y) : ∃ j : Nat, j < 7 ∧ Lib.indexByte shortSigns x = (j : Int) ∧ [34, 92, 98, 102, 110, 114, 116][j]? = some y := by
 have h1 := letter_idx' x
 simp only [letterIdx, h, Bool.and_eq_true, decide_eq_true_eq, beq_iff_eq] at h1
 obtain ⟨⟨h2, h3⟩, h4⟩ := h1
 exact ⟨_, by omega, by omega, h4⟩
theorem idxr_any (x : UInt8) (n : Int) (w : World) (h : x.toNat < 128) (hn : Lib.indexByte shortSigns x = n) :
  Calls Tryz.prog 165 #[.string ⟨#[34, 92, 8, 12, 10, 13, 9]⟩, .int .i32 (x.toNat : Int)] w fun e w' => e = .returned (.int .i64 n) ∧ w = w' := by
 refine (Tryz.strings_IndexRune_ascii ⟨#[34, 92, 8, 12, 10, 13, 9]⟩ (x.toNat : Int) w (by omega) (by omega)).mono ?_
 rintro e w' ⟨rfl, rfl⟩
 refine ⟨?_, rfl⟩
 rw [← hn, Int.toNat_natCast, show x.toNat.toUInt8 = x by simp]
 rfl
theorem first_of (s : ByteArray) (k : Nat) (h : k < s.size) : (s.extract k s.size).data.toList[0]? = some (s[k]'h) := by
 have h2 : k < s.data.toList.length := by rw [Array.length_toList]; exact h
 rw [ByteArray.data_extract, Array.toList_extract, List.extract_eq_take_drop, List.getElem?_take, if_pos (by omega), List.getElem?_drop, Nat.add_zero, List.getElem?_eq_getElem h2]
 rfl
theorem wsT (B : Nat) (acc : List UInt8) (s : ByteArray) (t : List UInt8) (w : World) (h : Lib.IsBuilderF 95 5 B B (Lib.byteCells acc) w) (hlen : acc.length + t.length ≤ 10000000) (hBw : B ≤ w.heap.size) (ht : s.data.toList = t) :
  Calls Tryz.prog 42 #[.pointer (some ⟨B, 0, none⟩), .string s] w fun e w' => e = .returned (.tuple #[.int .i64 s.size, .nilIface]) ∧ Lib.IsBuilderF 95 5 B B (Lib.byteCells (acc ++ t)) w' ∧ Below B w w' ∧ Lib.OthersKept 5 (some B) w w' := by
 subst ht
 exact Bld.ws B B acc s w h (by rw [Array.length_toList] at hlen; exact hlen) hBw
theorem hexd_ext (j : Nat) (hj : j < 16) : (⟨digitsSmall.toArray⟩ : ByteArray).extract j (j + 1) = ⟨#[hexd j]⟩ := by
 rcases (show j = 0 ∨ j = 1 ∨ j = 2 ∨ j = 3 ∨ j = 4 ∨ j = 5 ∨ j = 6 ∨ j = 7 ∨ j = 8 ∨ j = 9 ∨ j = 10 ∨ j = 11 ∨ j = 12 ∨ j = 13 ∨ j = 14 ∨ j = 15 by omega) with rfl | rfl | rfl | rfl | rfl | rfl | rfl | rfl | rfl | rfl | rfl | rfl | rfl | rfl | rfl | rfl <;> rfl
theorem write_cons (b : UInt8) (l : List UInt8) : write (b :: l) = esc1 b ++ write l := List.flatMap_cons
theorem ext_one (s : ByteArray) (k : Nat) (h : k < s.size) : (s.extract k (k + 1)).data.toList = [s[k]'h] := by
 rw [ByteArray.data_extract, Array.toList_extract, List.extract_eq_take_drop, Mem.drop_one s k h, show k + 1 - k = 1 by omega]
 rfl
set_option maxRecDepth 100000 in
set_option maxHeartbeats 4000000 in
theorem write_any (s : ByteArray) (w : World) (hs : s.size ≤ 100000) (hT : Lib.Utf8Tabs 1 2 w) :
  Calls Tryz.prog 161 #[.string s] w fun e w' => e = .returned (.string ⟨(write s.data.toList).toArray⟩) ∧ Below w.heap.size w w' := by
 have HT := Lib.hid hT
 clear hT
 go_enter Tryz.func161, Tryz.ntmps161
 go_wp2
 go_loopw [] (fun wr => ∃ (k : Nat) (acc : List UInt8), k ≤ s.size ∧ Lib.IsBuilderF 95 5 w.heap.size w.heap.size (Lib.byteCells acc) wr ∧ wr.heap[w.heap.size + 1]? = some (.stringIter s k) ∧ Below w.heap.size w wr ∧ acc.length ≤ 6 * k ∧
   acc ++ write (s.data.toList.drop k) = write s.data.toList) (fun wr => s.size - wr.iterPos (w.heap.size + 1))
 case atStart =>
  refine ⟨0, [], by omega, ?_, ?_, ((Below.refl _ w).alloc (Nat.le_refl _) _).alloc (by simp) _, by simp, rfl⟩
  ·exact Bld.below (Bld.fresh w _ _ (Nat.le_refl _) rfl) ((Below.refl _ _).alloc (Nat.le_refl _) _)
  ·have := World.iter_heap (w.alloc (.cells #[.pointer none, .slice none 0 0] 95)) s 0
   simpa using this
 case round =>
  obtain ⟨k, acc, hk, hB, hit, hbw, hal, heq⟩ := hrel
  have hsz : w.heap.size + 1 < wr.heap.size := (Array.getElem?_eq_some_iff.1 hit).1
  have Heq := Lib.hid heq
  have HB := Lib.hid hB
  clear heq hB
  by_cases hp : k < s.size
  ·have Hd := Lib.hid (Mem.drop_one s k hp)
   by_cases ha : (s[k]'hp).toNat < 128
   ·have hnx : ∀ ty, (Instr.next (.pointer (some ⟨w.heap.size + 1, 0, none⟩)) true ty).run Tryz.prog wr = _ := fun ty => Lib.run_next_ascii_at wr (w.heap.size + 1) s k ty hit hp ha
    have hit2 := Lib.iterAt_heap wr (w.heap.size + 1) s k (k + 1) hit
    have hbw2 := Lib.below_iterAt hbw (k := w.heap.size + 1) (by omega) s (k + 1)
    have HB2 := Lib.hid (HB.out.iterAt hit (k + 1))
    have hsl : ∀ wx, (Instr.slice 9 (.string s) (some (.int .i64 (k : Int))) none none).run Tryz.prog wx = .ok (.string (s.extract k s.size)) wx := by
     intro wx
     rw [run_slice_string_from_if wx _ _ _ _ Tryz.underlying9, if_pos ⟨by omega, by omega⟩]
     rfl
    cases hl : letter (s[k]'hp) with
    | some y =>
     obtain ⟨j, hj, hi, hy⟩ := letter_some _ y hl
     have HI := Lib.hid hi
     have HE := Lib.hid (show esc1 (s[k]'hp) = [92, y] by rw [esc1, hl])
     clear hi hl
     rcases (show j = 0 ∨ j = 1 ∨ j = 2 ∨ j = 3 ∨ j = 4 ∨ j = 5 ∨ j = 6 by omega) with rfl | rfl | rfl | rfl | rfl | rfl | rfl
     all_goals
      have HY := Lib.hid (Option.some.inj hy)
      clear hy hj
      go_wp2_with (fail)
      refine (Tryz.utf8_DecodeRuneInString_ascii _ (s[k]'hp) _ (first_of s k hp) ha).mono ?_
      rintro e W1 ⟨rfl, rfl⟩
      go_wp2_with (fail)
      refine (idxr_any _ _ _ ha HI.out).mono ?_
      rintro e W1 ⟨rfl, rfl⟩
      go_wp2_with (fail)
      refine (wsT w.heap.size acc _ [92, y] _ HB2.out (by simp; omega) hbw2.size (by rw [← HY.out]; rfl)).mono ?_
      rintro e W2 ⟨rfl, b2, bb2, k2⟩
      have hit3 := k2.iter hit2 (by omega)
      have B2 := Lib.hid b2
      clear b2
      go_wp2
      go_roundw
      case rel =>
       refine ⟨k + 1, acc ++ [92, y], by omega, B2.out, hit3, hbw2.trans bb2, by simp; omega, ?_⟩
       rw [← Heq.out, Hd.out, write_cons, HE.out, List.append_assoc]
      case measure =>
       simp only [World.iterPos, hit3, hit]
       omega
    | none =>
     have hi := letter_none _ hl
     have HI := Lib.hid hi
     clear hi
     by_cases h32 : (s[k]'hp).toNat < 32
     ·have HE := Lib.hid (show esc1 (s[k]'hp) = [92, 117, 48, 48, hexd ((s[k]'hp).toNat / 16), hexd ((s[k]'hp).toNat % 16)] by rw [esc1, hl]; simp only []; rw [if_pos h32])
      clear hl
      go_wp2_with (fail)
      refine (Tryz.utf8_DecodeRuneInString_ascii _ (s[k]'hp) _ (first_of s k hp) ha).mono ?_
      rintro e W1 ⟨rfl, rfl⟩
      go_wp2_with (fail)
      refine (idxr_any _ _ _ ha HI.out).mono ?_
      rintro e W1 ⟨rfl, rfl⟩
      obtain ⟨qa, hqa⟩ : ∃ q : Nat, q = (s[k]'hp).toNat / 16 := ⟨_, rfl⟩
      obtain ⟨qd, hqd⟩ : ∃ q : Nat, q = (s[k]'hp).toNat % 16 := ⟨_, rfl⟩
      have ea : ((s[k]'hp).toNat : Int) / 16 = (qa : Int) := by omega
      have ed : bits .and .i32 ((s[k]'hp).toNat : Int) 15 = (qd : Int) := by
       have := bits_mask .i32 31 (by decide) wraps_i32 4 (by decide) ((s[k]'hp).toNat : Int) (by omega) (by omega)
       rw [hqd]
       simpa using this
      have la : qa < 16 := by omega
      have ld : qd < 16 := by omega
      have wa : IntKind.i32.wrap ((qa : Int) + 1) = (qa : Int) + 1 := by rw [IntKind.wrap_i32]; omega
      have wd : IntKind.i32.wrap ((qd : Int) + 1) = (qd : Int) + 1 := by rw [IntKind.wrap_i32]; omega
      have sa : ∀ wx, (Instr.slice 9 (.string ⟨#[48, 49, 50, 51, 52, 53, 54, 55, 56, 57, 97, 98, 99, 100, 101, 102]⟩) (some (.int .i32 (qa : Int))) (some (.int .i32 ((qa : Int) + 1))) none).run Tryz.prog wx = .ok (.string ⟨#[hexd qa]⟩) wx := by
       intro wx
       rw [run_slice_string wx _ _ _ _ _ _ Tryz.underlying9 (by omega) (by omega) (by show _ ≤ (16 : Int); omega), ← hexd_ext qa la]
       rfl
      have sd : ∀ wx, (Instr.slice 9 (.string ⟨#[48, 49, 50, 51, 52, 53, 54, 55, 56, 57, 97, 98, 99, 100, 101, 102]⟩) (some (.int .i32 (qd : Int))) (some (.int .i32 ((qd : Int) + 1))) none).run Tryz.prog wx = .ok (.string ⟨#[hexd qd]⟩) wx := by
       intro wx
       rw [run_slice_string wx _ _ _ _ _ _ Tryz.underlying9 (by omega) (by omega) (by show _ ≤ (16 : Int); omega), ← hexd_ext qd ld]
       rfl
      rw [← hqa, ← hqd] at HE
      clear hqa hqd la ld
      have HB3 := Lib.hid (Bld.below HB2.out (Below.refl _ (wr.iterAt (w.heap.size + 1) s (k + 1))).drew)
      have hsz3 : w.heap.size ≤ (wr.iterAt (w.heap.size + 1) s (k + 1)).drew.heap.size := hbw2.size
      have hit2d : (wr.iterAt (w.heap.size + 1) s (k + 1)).drew.heap[w.heap.size + 1]? = some (.stringIter s (k + 1)) := hit2
      have hbw2d : Below w.heap.size w (wr.iterAt (w.heap.size + 1) s (k + 1)).drew := hbw2.drew
      have HC := Lib.hid (fun t ht => wsT w.heap.size acc t [92, 117, 48, 48, hexd qa, hexd qd] _ HB3.out (by simp; omega) hsz3 ht)
      have Hit2d := Lib.hid hit2d
      have Hbw2d := Lib.hid hbw2d
      clear hit2d hbw2d hsz3
      go_wp2_with (fail)
      go_region_with (go_at_call 42; refine (HC.out _ rfl).mono ?_; rintro e W2 ⟨rfl, b2, bb2, k2⟩)
      all_goals
       rename_i W2 b2 bb2 k2
       have hit3 := k2.iter Hit2d.out (by omega)
       have hbw3 := Hbw2d.out.trans bb2
       have B2 := Lib.hid b2
       clear b2 k2 bb2
       go_wp2
       go_roundw
       case rel =>
        refine ⟨k + 1, acc ++ [92, 117, 48, 48, hexd qa, hexd qd], by omega, B2.out, hit3, hbw3, by simp; omega, ?_⟩
        rw [← Heq.out, Hd.out, write_cons, HE.out, List.append_assoc]
       case measure =>
        simp only [World.iterPos, hit3, hit]
        omega
     ·have HE := Lib.hid (show esc1 (s[k]'hp) = [s[k]'hp] by rw [esc1, hl]; simp only []; rw [if_neg h32])
      clear hl
      go_wp2_with (fail)
      refine (Tryz.utf8_DecodeRuneInString_ascii _ (s[k]'hp) _ (first_of s k hp) ha).mono ?_
      rintro e W1 ⟨rfl, rfl⟩
      go_wp2_with (fail)
      refine (idxr_any _ _ _ ha HI.out).mono ?_
      rintro e W1 ⟨rfl, rfl⟩
      go_wp2_with (fail)
      refine (wsT w.heap.size acc _ [s[k]'hp] _ HB2.out (by simp; omega) hbw2.size (ext_one s k hp)).mono ?_
      rintro e W2 ⟨rfl, b2, bb2, k2⟩
      have hit3 := k2.iter hit2 (by omega)
      have B2 := Lib.hid b2
      clear b2
      go_wp2
      go_roundw
      case rel =>
       refine ⟨k + 1, acc ++ [s[k]'hp], by omega, B2.out, hit3, hbw2.trans bb2, by simp; omega, ?_⟩
       rw [← Heq.out, Hd.out, write_cons, HE.out, List.append_assoc]
      case measure =>
       simp only [World.iterPos, hit3, hit]
       omega
   ·obtain ⟨hfit, hbytes⟩ := decode_bytes s k hp (by omega)
    have hh := decode_high s k hp (by omega)
    have hle := decode_le s k
    have htl : Utf8.decode (s.extract k s.size) 0 = Utf8.decode s k := Lib.tail_decode s k 0
    have hgo : Lib.decodeGo (s.extract k s.size) = Utf8.decode s k := by
     unfold Lib.decodeGo
     rw [if_neg (by rw [ByteArray.size_extract]; omega), htl]
    have hnx : ∀ ty, (Instr.next (.pointer (some ⟨w.heap.size + 1, 0, none⟩)) true ty).run Tryz.prog wr = _ := fun ty => Lib.run_next_any_at wr (w.heap.size + 1) s k ty hit hp
    obtain ⟨n, hn⟩ : ∃ n, n = (Utf8.decode s k).2 := ⟨_, rfl⟩
    obtain ⟨c, hc⟩ : ∃ c, c = (Utf8.decode s k).1 := ⟨_, rfl⟩
    rw [← hn] at hnx hfit hbytes hh
    rw [← hc] at hnx hh hle
    have hit2 := Lib.iterAt_heap wr (w.heap.size + 1) s k (k + n) hit
    have hbw2 := Lib.below_iterAt hbw (k := w.heap.size + 1) (by omega) s (k + n)
    have HB2 := Lib.hid (HB.out.iterAt hit (k + n))
    have Hgo := Lib.hid (show Lib.decodeGo (s.extract k s.size) = (c, n) by rw [hgo, hc, hn])
    have hT2 := Lib.hid (Go.Proofs.Utf8Tabs_below HT.out hbw2)
    have hsl : ∀ wx, (Instr.slice 9 (.string s) (some (.int .i64 (k : Int))) none none).run Tryz.prog wx = .ok (.string (s.extract k s.size)) wx := by
     intro wx
     rw [run_slice_string_from_if wx _ _ _ _ Tryz.underlying9, if_pos ⟨by omega, by omega⟩]
     rfl
    have Hby := Lib.hid hbytes
    obtain ⟨h128, h1n⟩ := hh
    clear hgo htl hn hc hbytes
    go_wp2_with (fail)
    generalize wr.iterAt (w.heap.size + 1) s (k + n) = W0 at *
    refine (Tryz.utf8_DecodeRuneInString _ W0 hT2.out).mono ?_
    rintro e W1 ⟨rfl, b1⟩
    rw [Hgo.out]
    have hbk1 := hbw2.trans (b1.mono hbw2.size)
    have hitw1 : W1.heap[w.heap.size + 1]? = some (.stringIter s (k + n)) := by
     rw [b1.block _ (Array.getElem?_eq_some_iff.1 hit2).1]; exact hit2
    have HB3 := Lib.hid (Bld.below HB2.out b1)
    go_wp2_with (fail)
    refine (Rune.none ⟨#[34, 92, 8, 12, 10, 13, 9]⟩ (c : Int) W1 (by decide) (by decide) (by omega) (by omega)).mono ?_
    rintro e W2 ⟨rfl, b2⟩
    have hbk2 := hbk1.trans (b2.mono hbk1.size)
    have hitw2 : W2.heap[w.heap.size + 1]? = some (.stringIter s (k + n)) := by
     rw [b2.block _ (Array.getElem?_eq_some_iff.1 hitw1).1]; exact hitw1
    have HB4 := Lib.hid (Bld.below HB3.out b2)
    have hall : ∀ b ∈ (s.data.toList.drop k).take n, 128 ≤ b.toNat := by
     intro b hb
     obtain ⟨j, hj, rfl⟩ := List.getElem_of_mem hb
     rw [List.length_take, List.length_drop, Array.length_toList] at hj
     have hjs : k + j < s.size := by have : s.data.size = s.size := rfl; omega
     have := Hby.out j hjs (by omega)
     rw [List.getElem_take, List.getElem_drop]
     exact this
    have hsplit : write (s.data.toList.drop k) = (s.data.toList.drop k).take n ++ write (s.data.toList.drop (k + n)) := by
     conv => lhs; rw [← List.take_append_drop n (s.data.toList.drop k)]
     rw [write_append, write_high _ hall, List.drop_drop]
    have htk : (s.extract k (k + n)).data.toList = (s.data.toList.drop k).take n := by
     rw [ByteArray.data_extract, Array.toList_extract, List.extract_eq_take_drop, show k + n - k = n by omega]
    have hlt : ((s.data.toList.drop k).take n).length ≤ n := List.length_take_le _ _
    have Hsp := Lib.hid hsplit
    have Htk := Lib.hid htk
    have c32 : ¬ (c : Int) < 32 := by omega
    clear hall hsplit htk hbk1 hitw1
    go_wp2_with (fail)
    refine (wsT w.heap.size acc _ _ W2 HB4.out (by omega) hbk2.size Htk.out).mono ?_
    rintro e W3 ⟨rfl, b3, bb3, k3⟩
    have hit3 := k3.iter hitw2 (by omega)
    have B3 := Lib.hid b3
    have hbk3 := hbk2.trans bb3
    clear b3 k3 bb3
    go_wp2
    go_roundw
    case rel =>
     refine ⟨k + n, _, by omega, B3.out, hit3, hbk3, by rw [List.length_append]; omega, ?_⟩
     rw [← Heq.out, Hsp.out, List.append_assoc]
    case measure =>
     simp only [World.iterPos, hit3, hit]
     omega
  ·have hnx : ∀ ty, (Instr.next (.pointer (some ⟨w.heap.size + 1, 0, none⟩)) true ty).run Tryz.prog wr = _ := fun ty => Lib.run_next_end_at wr (w.heap.size + 1) s k ty hit hp
   have Hd := Lib.hid (Mem.drop_none s k (by omega))
   go_wp2_with (fail)
   refine (Tryz.Builder_String_any_k w.heap.size w.heap.size acc wr HB.out (by omega)).mono ?_
   rintro e W2 ⟨rfl, _, b2, _⟩
   go_wp2
   go_ret
   refine ⟨?_, hbw.trans b2⟩
   rw [← Heq.out, Hd.out]
   simp [write]
end Esc
end Go.Proofs.YthnbpnfaghjamaaGreat

/- escape.Write at ASCII texts: it reads no table. (Written by wip/gen_ascw.py out of XEscWrite.) -/
namespace Go.Proofs.YthnbpnfaghjamaaGreat
open Go.RowKit
namespace Esc
set_option maxRecDepth 100000 in
set_option maxHeartbeats 4000000 in
theorem writeA_any (s : ByteArray) (w : World) (hs : s.size ≤ 100000) (hA : ∀ k (h : k < s.size), (s[k]'h).toNat < 128) :
  Calls Tryz.prog 161 #[.string s] w fun e w' => e = .returned (.string ⟨(write s.data.toList).toArray⟩) ∧ Below w.heap.size w w' := by
 have HAs := Lib.hid hA
 clear hA
 go_enter Tryz.func161, Tryz.ntmps161
 go_wp2
 go_loopw [] (fun wr => ∃ (k : Nat) (acc : List UInt8), k ≤ s.size ∧ Lib.IsBuilderF 95 5 w.heap.size w.heap.size (Lib.byteCells acc) wr ∧ wr.heap[w.heap.size + 1]? = some (.stringIter s k) ∧ Below w.heap.size w wr ∧ acc.length ≤ 6 * k ∧
   acc ++ write (s.data.toList.drop k) = write s.data.toList) (fun wr => s.size - wr.iterPos (w.heap.size + 1))
 case atStart =>
  refine ⟨0, [], by omega, ?_, ?_, ((Below.refl _ w).alloc (Nat.le_refl _) _).alloc (by simp) _, by simp, rfl⟩
  ·exact Bld.below (Bld.fresh w _ _ (Nat.le_refl _) rfl) ((Below.refl _ _).alloc (Nat.le_refl _) _)
  ·have := World.iter_heap (w.alloc (.cells #[.pointer none, .slice none 0 0] 95)) s 0
   simpa using this
 case round =>
  obtain ⟨k, acc, hk, hB, hit, hbw, hal, heq⟩ := hrel
  have hsz : w.heap.size + 1 < wr.heap.size := (Array.getElem?_eq_some_iff.1 hit).1
  have Heq := Lib.hid heq
  have HB := Lib.hid hB
  clear heq hB
  by_cases hp : k < s.size
  ·have Hd := Lib.hid (Mem.drop_one s k hp)
   ·have ha := HAs.out k hp
    have hnx : ∀ ty, (Instr.next (.pointer (some ⟨w.heap.size + 1, 0, none⟩)) true ty).run Tryz.prog wr = _ := fun ty => Lib.run_next_ascii_at wr (w.heap.size + 1) s k ty hit hp ha
    have hit2 := Lib.iterAt_heap wr (w.heap.size + 1) s k (k + 1) hit
    have hbw2 := Lib.below_iterAt hbw (k := w.heap.size + 1) (by omega) s (k + 1)
    have HB2 := Lib.hid (HB.out.iterAt hit (k + 1))
    have hsl : ∀ wx, (Instr.slice 9 (.string s) (some (.int .i64 (k : Int))) none none).run Tryz.prog wx = .ok (.string (s.extract k s.size)) wx := by
     intro wx
     rw [run_slice_string_from_if wx _ _ _ _ Tryz.underlying9, if_pos ⟨by omega, by omega⟩]
     rfl
    cases hl : letter (s[k]'hp) with
    | some y =>
     obtain ⟨j, hj, hi, hy⟩ := letter_some _ y hl
     have HI := Lib.hid hi
     have HE := Lib.hid (show esc1 (s[k]'hp) = [92, y] by rw [esc1, hl])
     clear hi hl
     rcases (show j = 0 ∨ j = 1 ∨ j = 2 ∨ j = 3 ∨ j = 4 ∨ j = 5 ∨ j = 6 by omega) with rfl | rfl | rfl | rfl | rfl | rfl | rfl
     all_goals
      have HY := Lib.hid (Option.some.inj hy)
      clear hy hj
      go_wp2_with (fail)
      refine (Tryz.utf8_DecodeRuneInString_ascii _ (s[k]'hp) _ (first_of s k hp) ha).mono ?_
      rintro e W1 ⟨rfl, rfl⟩
      go_wp2_with (fail)
      refine (idxr_any _ _ _ ha HI.out).mono ?_
      rintro e W1 ⟨rfl, rfl⟩
      go_wp2_with (fail)
      refine (wsT w.heap.size acc _ [92, y] _ HB2.out (by simp; omega) hbw2.size (by rw [← HY.out]; rfl)).mono ?_
      rintro e W2 ⟨rfl, b2, bb2, k2⟩
      have hit3 := k2.iter hit2 (by omega)
      have B2 := Lib.hid b2
      clear b2
      go_wp2
      go_roundw
      case rel =>
       refine ⟨k + 1, acc ++ [92, y], by omega, B2.out, hit3, hbw2.trans bb2, by simp; omega, ?_⟩
       rw [← Heq.out, Hd.out, write_cons, HE.out, List.append_assoc]
      case measure =>
       simp only [World.iterPos, hit3, hit]
       omega
    | none =>
     have hi := letter_none _ hl
     have HI := Lib.hid hi
     clear hi
     by_cases h32 : (s[k]'hp).toNat < 32
     ·have HE := Lib.hid (show esc1 (s[k]'hp) = [92, 117, 48, 48, hexd ((s[k]'hp).toNat / 16), hexd ((s[k]'hp).toNat % 16)] by rw [esc1, hl]; simp only []; rw [if_pos h32])
      clear hl
      go_wp2_with (fail)
      refine (Tryz.utf8_DecodeRuneInString_ascii _ (s[k]'hp) _ (first_of s k hp) ha).mono ?_
      rintro e W1 ⟨rfl, rfl⟩
      go_wp2_with (fail)
      refine (idxr_any _ _ _ ha HI.out).mono ?_
      rintro e W1 ⟨rfl, rfl⟩
      obtain ⟨qa, hqa⟩ : ∃ q : Nat, q = (s[k]'hp).toNat / 16 := ⟨_, rfl⟩
      obtain ⟨qd, hqd⟩ : ∃ q : Nat, q = (s[k]'hp).toNat % 16 := ⟨_, rfl⟩
      have ea : ((s[k]'hp).toNat : Int) / 16 = (qa : Int) := by omega
      have ed : bits .and .i32 ((s[k]'hp).toNat : Int) 15 = (qd : Int) := by
       have := bits_mask .i32 31 (by decide) wraps_i32 4 (by decide) ((s[k]'hp).toNat : Int) (by omega) (by omega)
       rw [hqd]
       simpa using this
      have la : qa < 16 := by omega
      have ld : qd < 16 := by omega
      have wa : IntKind.i32.wrap ((qa : Int) + 1) = (qa : Int) + 1 := by rw [IntKind.wrap_i32]; omega
      have wd : IntKind.i32.wrap ((qd : Int) + 1) = (qd : Int) + 1 := by rw [IntKind.wrap_i32]; omega
      have sa : ∀ wx, (Instr.slice 9 (.string ⟨#[48, 49, 50, 51, 52, 53, 54, 55, 56, 57, 97, 98, 99, 100, 101, 102]⟩) (some (.int .i32 (qa : Int))) (some (.int .i32 ((qa : Int) + 1))) none).run Tryz.prog wx = .ok (.string ⟨#[hexd qa]⟩) wx := by
       intro wx
       rw [run_slice_string wx _ _ _ _ _ _ Tryz.underlying9 (by omega) (by omega) (by show _ ≤ (16 : Int); omega), ← hexd_ext qa la]
       rfl
      have sd : ∀ wx, (Instr.slice 9 (.string ⟨#[48, 49, 50, 51, 52, 53, 54, 55, 56, 57, 97, 98, 99, 100, 101, 102]⟩) (some (.int .i32 (qd : Int))) (some (.int .i32 ((qd : Int) + 1))) none).run Tryz.prog wx = .ok (.string ⟨#[hexd qd]⟩) wx := by
       intro wx
       rw [run_slice_string wx _ _ _ _ _ _ Tryz.underlying9 (by omega) (by omega) (by show _ ≤ (16 : Int); omega), ← hexd_ext qd ld]
       rfl
      rw [← hqa, ← hqd] at HE
      clear hqa hqd la ld
      have HB3 := Lib.hid (Bld.below HB2.out (Below.refl _ (wr.iterAt (w.heap.size + 1) s (k + 1))).drew)
      have hsz3 : w.heap.size ≤ (wr.iterAt (w.heap.size + 1) s (k + 1)).drew.heap.size := hbw2.size
      have hit2d : (wr.iterAt (w.heap.size + 1) s (k + 1)).drew.heap[w.heap.size + 1]? = some (.stringIter s (k + 1)) := hit2
      have hbw2d : Below w.heap.size w (wr.iterAt (w.heap.size + 1) s (k + 1)).drew := hbw2.drew
      have HC := Lib.hid (fun t ht => wsT w.heap.size acc t [92, 117, 48, 48, hexd qa, hexd qd] _ HB3.out (by simp; omega) hsz3 ht)
      have Hit2d := Lib.hid hit2d
      have Hbw2d := Lib.hid hbw2d
      clear hit2d hbw2d hsz3
      go_wp2_with (fail)
      go_region_with (go_at_call 42; refine (HC.out _ rfl).mono ?_; rintro e W2 ⟨rfl, b2, bb2, k2⟩)
      all_goals
       rename_i W2 b2 bb2 k2
       have hit3 := k2.iter Hit2d.out (by omega)
       have hbw3 := Hbw2d.out.trans bb2
       have B2 := Lib.hid b2
       clear b2 k2 bb2
       go_wp2
       go_roundw
       case rel =>
        refine ⟨k + 1, acc ++ [92, 117, 48, 48, hexd qa, hexd qd], by omega, B2.out, hit3, hbw3, by simp; omega, ?_⟩
        rw [← Heq.out, Hd.out, write_cons, HE.out, List.append_assoc]
       case measure =>
        simp only [World.iterPos, hit3, hit]
        omega
     ·have HE := Lib.hid (show esc1 (s[k]'hp) = [s[k]'hp] by rw [esc1, hl]; simp only []; rw [if_neg h32])
      clear hl
      go_wp2_with (fail)
      refine (Tryz.utf8_DecodeRuneInString_ascii _ (s[k]'hp) _ (first_of s k hp) ha).mono ?_
      rintro e W1 ⟨rfl, rfl⟩
      go_wp2_with (fail)
      refine (idxr_any _ _ _ ha HI.out).mono ?_
      rintro e W1 ⟨rfl, rfl⟩
      go_wp2_with (fail)
      refine (wsT w.heap.size acc _ [s[k]'hp] _ HB2.out (by simp; omega) hbw2.size (ext_one s k hp)).mono ?_
      rintro e W2 ⟨rfl, b2, bb2, k2⟩
      have hit3 := k2.iter hit2 (by omega)
      have B2 := Lib.hid b2
      clear b2
      go_wp2
      go_roundw
      case rel =>
       refine ⟨k + 1, acc ++ [s[k]'hp], by omega, B2.out, hit3, hbw2.trans bb2, by simp; omega, ?_⟩
       rw [← Heq.out, Hd.out, write_cons, HE.out, List.append_assoc]
      case measure =>
       simp only [World.iterPos, hit3, hit]
       omega
  ·have hnx : ∀ ty, (Instr.next (.pointer (some ⟨w.heap.size + 1, 0, none⟩)) true ty).run Tryz.prog wr = _ := fun ty => Lib.run_next_end_at wr (w.heap.size + 1) s k ty hit hp
   have Hd := Lib.hid (Mem.drop_none s k (by omega))
   go_wp2_with (fail)
   refine (Tryz.Builder_String_any_k w.heap.size w.heap.size acc wr HB.out (by omega)).mono ?_
   rintro e W2 ⟨rfl, _, b2, _⟩
   go_wp2
   go_ret
   refine ⟨?_, hbw.trans b2⟩
   rw [← Heq.out, Hd.out]
   simp [write]
end Esc
end Go.Proofs.YthnbpnfaghjamaaGreat
