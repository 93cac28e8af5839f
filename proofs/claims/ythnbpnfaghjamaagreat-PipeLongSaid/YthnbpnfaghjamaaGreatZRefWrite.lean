/- Texts of the walk, joined. -/
import Derived.Test.YthnbpnfaghjamaaGreatZXtra
import Derived.WalkKit
import Derived.Laws.BytesArg
import Derived.Test.YthnbpnfaghjamaaGreatChecked
import Derived.Test.YthnbpnfaghjamaaGreatZAscW
import Derived.Test.YthnbpnfaghjamaaGreatK16
import Derived.Test.YthnbpnfaghjamaaGreatK06
import Derived.OpenShut
import Derived.RegionTactic
import Derived.BigRegion
import Derived.ChangeAlike
/- string([]byte{..}): the block that was just made, read as a string. -/
namespace Go.Proofs.YthnbpnfaghjamaaGreat
namespace Conv
theorem at_new (w W : World) (xs : List Int) (h : W.heap[w.heap.size]? = some (.cells (xs.map (Value.int .u8)).toArray 5 (0, 0))) (n : Nat) (hn : xs.length = n) :
  (convert 47 9 (.slice (some ⟨w.heap.size, 0, none⟩) n n)).run Tryz.prog W = .ok (.string (strOfNums xs)) W := by
 refine run_convert_bytes_arg W _ 5 Tryz.underlying47 Tryz.underlying5 w.heap.size 0 n n xs hn ?_ _ Tryz.underlying9
 intro i hi
 have hi2 : i < xs.length := by omega
 simp [World.cell?, h, hi2]
theorem one (w : World) (a : Int) : (convert 47 9 (.slice (some ⟨w.heap.size, 0, none⟩) 1 1)).run Tryz.prog (w.alloc (.cells #[.int .u8 a] 5)) = .ok (.string (strOfNums [a])) (w.alloc (.cells #[.int .u8 a] 5)) :=
 at_new w _ [a] (heap_alloc_new w _) 1 rfl
theorem two_drew (w : World) (a b : Int) : (convert 47 9 (.slice (some ⟨w.heap.size, 0, none⟩) 2 2)).run Tryz.prog (w.alloc (.cells #[.int .u8 a, .int .u8 b] 5)).drew = .ok (.string (strOfNums [a, b])) (w.alloc (.cells #[.int .u8 a, .int .u8 b] 5)).drew :=
 at_new w (w.alloc (.cells #[.int .u8 a, .int .u8 b] 5)).drew [a, b] (heap_alloc_new w _) 2 rfl
end Conv
end Go.Proofs.YthnbpnfaghjamaaGreat

/- truchmanref1.Write. -/
namespace Go.Proofs.YthnbpnfaghjamaaGreat
open Go.RowKit
namespace Ref
theorem extract_one (s : ByteArray) (k : Nat) (h : k < s.size) : s.extract k (k + 1) = ⟨#[s[k]'h]⟩ := by
 apply ByteArray.ext
 apply Array.ext
 ·simp [ByteArray.data_extract]; omega
 ·intro i h1 h2
  simp [ByteArray.data_extract] at h1 h2 ⊢
  have : i = 0 := by omega
  subst this
  simp
  rfl
theorem slice_one (s : ByteArray) (k : Nat) (h : k < s.size) (c : UInt8) (hc : s[k]'h = c) (w : World) :
  (Instr.slice 9 (.string s) (some (.int .i64 (k : Int))) (some (.int .i64 ((k : Int) + 1))) none).run Tryz.prog w = .ok (.string ⟨#[c]⟩) w := by
 rw [run_slice_string w 9 s .i64 .i64 k ((k : Int) + 1) Tryz.underlying9 (by omega) (by omega) (by omega)]
 rw [show ((k : Int) + 1).toNat = k + 1 by omega, show (k : Int).toNat = k by omega, extract_one s k h, hc]
theorem asc (S : ByteArray) (n : UInt8) : S ++ ⟨#[92]⟩ ++ ⟨#[n]⟩ = S ++ ⟨([92, n] : List UInt8).toArray⟩ := by
 rw [ByteArray.append_assoc]
 rfl
theorem write_take (s : ByteArray) (k : Nat) (h : k < s.size) : Esc.write (s.data.toList.take (k + 1)) = Esc.write (s.data.toList.take k) ++ Esc.esc1 (s[k]'h) := by
 rw [List.take_succ_eq_append_getElem (by rw [Array.length_toList]; exact h), Esc.write_append]
 congr 1
 simp [Esc.write]
 rfl
theorem write_len : ∀ l : List UInt8, (Esc.write l).length ≤ 6 * l.length
 | [] => by simp [Esc.write]
 | b :: l => by
  have h1 := Esc.esc1_length b
  have h2 := write_len l
  have e : Esc.write (b :: l) = Esc.esc1 b ++ Esc.write l := rfl
  rw [e, List.length_append, List.length_cons]
  omega
theorem esc1_plain (c : UInt8) (h : Esc.letter c = none) (h32 : 32 ≤ c.toNat) : Esc.esc1 c = [c] := by
 rw [Esc.esc1, h]
 simp only []
 rw [if_neg (by omega)]
theorem letter_none (c : UInt8) (h1 : c ≠ 34) (h2 : c ≠ 92) (h3 : c ≠ 8) (h4 : c ≠ 12) (h5 : c ≠ 10) (h6 : c ≠ 13) (h7 : c ≠ 9) : Esc.letter c = none := by
 simp [Esc.letter, h1, h2, h3, h4, h5, h6, h7]
theorem small_get : ∀ (d : Fin 16), (⟨#[48, 49, 50, 51, 52, 53, 54, 55, 56, 57, 97, 98, 99, 100, 101, 102]⟩ : ByteArray)[d.val]'(by show _ < 16; omega) = Esc.hexd d.val := by decide +kernel
theorem two_nums (a b : UInt8) : strOfNums [(a.toNat : Int), (b.toNat : Int)] = ⟨#[a, b]⟩ := by
 simp [strOfNums]
set_option maxRecDepth 100000 in
set_option maxHeartbeats 4000000 in
theorem write_any (s : ByteArray) (w : World) (hs : s.size ≤ 1000) : Calls Tryz.prog 59 #[.string s] w fun e w' => e = .returned (.string ⟨(Esc.write s.data.toList).toArray⟩) ∧ Below w.heap.size w w' := by
 go_enter Tryz.func59, Tryz.ntmps59
 go_wp2
 go_loopw [3, 4] (fun o i wr => ∃ k : Nat, i = .int .i64 k ∧ k ≤ s.size ∧ (∃ S : ByteArray, o = .string S ∧ S = ⟨(Esc.write (s.data.toList.take k)).toArray⟩) ∧ Below w.heap.size w wr) (fun _ i _ => s.size - (intOf i).toNat)
 case atStart => exact ⟨0, rfl, by omega, ⟨_, rfl, rfl⟩, Below.refl _ _⟩
 case round =>
  obtain ⟨k, rfl, hk, ⟨S, rfl, hS⟩, hbw⟩ := hrel
  have hSs : S.size ≤ 6000 := by
   rw [hS, Mem.size_mk]
   have := write_len (s.data.toList.take k)
   have := List.length_take_le k s.data.toList
   omega
  have HS := Lib.hid hS
  have hbs := hbw.size
  clear hS
  by_cases hlt : k < s.size
  ·have HT := Lib.hid (write_take s k hlt)
   have hx := extract_one s k hlt
   obtain ⟨c, hc⟩ : ∃ c, s[k]'hlt = c := ⟨_, rfl⟩
   rw [hc] at HT
   have hsl := slice_one s k hlt c hc
   clear hx
   have hlt' : (k : Int) + 1 ≤ s.size := by omega
   have hlt2 : k + 1 ≤ s.size := by omega
   by_cases g34 : c = 34
   ·subst g34
    have E := Lib.hid (show Esc.esc1 34 = [92, 34] from rfl)
    have hb : S.size ≤ 6000 := hSs
    go_wp2
    go_roundw
    case rel => exact ⟨k + 1, by go_num, by omega, ⟨_, rfl, by rw [HT.out, E.out, ← Mem.append_mk, ← HS.out] <;> first | rfl | exact asc S 34⟩, hbw⟩
    case measure => simp [intOf]; omega
   by_cases g92 : c = 92
   ·subst g92
    have E := Lib.hid (show Esc.esc1 92 = [92, 92] from rfl)
    have hb : S.size ≤ 6000 := hSs
    go_wp2
    go_roundw
    case rel => exact ⟨k + 1, by go_num, by omega, ⟨_, rfl, by rw [HT.out, E.out, ← Mem.append_mk, ← HS.out] <;> first | rfl | exact asc S 92⟩, hbw⟩
    case measure => simp [intOf]; omega
   by_cases g8 : c = 8
   ·subst g8
    have E := Lib.hid (show Esc.esc1 8 = [92, 98] from rfl)
    have hb : S.size ≤ 6000 := hSs
    go_wp2
    go_roundw
    case rel => exact ⟨k + 1, by go_num, by omega, ⟨_, rfl, by rw [HT.out, E.out, ← Mem.append_mk, ← HS.out] <;> first | rfl | exact asc S 8⟩, hbw⟩
    case measure => simp [intOf]; omega
   by_cases g12 : c = 12
   ·subst g12
    have E := Lib.hid (show Esc.esc1 12 = [92, 102] from rfl)
    have hb : S.size ≤ 6000 := hSs
    go_wp2
    go_roundw
    case rel => exact ⟨k + 1, by go_num, by omega, ⟨_, rfl, by rw [HT.out, E.out, ← Mem.append_mk, ← HS.out] <;> first | rfl | exact asc S 12⟩, hbw⟩
    case measure => simp [intOf]; omega
   by_cases g10 : c = 10
   ·subst g10
    have E := Lib.hid (show Esc.esc1 10 = [92, 110] from rfl)
    have hb : S.size ≤ 6000 := hSs
    go_wp2
    go_roundw
    case rel => exact ⟨k + 1, by go_num, by omega, ⟨_, rfl, by rw [HT.out, E.out, ← Mem.append_mk, ← HS.out] <;> first | rfl | exact asc S 10⟩, hbw⟩
    case measure => simp [intOf]; omega
   by_cases g13 : c = 13
   ·subst g13
    have E := Lib.hid (show Esc.esc1 13 = [92, 114] from rfl)
    have hb : S.size ≤ 6000 := hSs
    go_wp2
    go_roundw
    case rel => exact ⟨k + 1, by go_num, by omega, ⟨_, rfl, by rw [HT.out, E.out, ← Mem.append_mk, ← HS.out] <;> first | rfl | exact asc S 13⟩, hbw⟩
    case measure => simp [intOf]; omega
   by_cases g9 : c = 9
   ·subst g9
    have E := Lib.hid (show Esc.esc1 9 = [92, 116] from rfl)
    have hb : S.size ≤ 6000 := hSs
    go_wp2
    go_roundw
    case rel => exact ⟨k + 1, by go_num, by omega, ⟨_, rfl, by rw [HT.out, E.out, ← Mem.append_mk, ← HS.out] <;> first | rfl | exact asc S 9⟩, hbw⟩
    case measure => simp [intOf]; omega
   have t34 : ((c.toNat : Int) == 34) = false := by rw [Int64.byte_eq c 34 34 rfl]; exact beq_eq_false_iff_ne.mpr g34
   have t92 : ((c.toNat : Int) == 92) = false := by rw [Int64.byte_eq c 92 92 rfl]; exact beq_eq_false_iff_ne.mpr g92
   have t8 : ((c.toNat : Int) == 8) = false := by rw [Int64.byte_eq c 8 8 rfl]; exact beq_eq_false_iff_ne.mpr g8
   have t12 : ((c.toNat : Int) == 12) = false := by rw [Int64.byte_eq c 12 12 rfl]; exact beq_eq_false_iff_ne.mpr g12
   have t10 : ((c.toNat : Int) == 10) = false := by rw [Int64.byte_eq c 10 10 rfl]; exact beq_eq_false_iff_ne.mpr g10
   have t13 : ((c.toNat : Int) == 13) = false := by rw [Int64.byte_eq c 13 13 rfl]; exact beq_eq_false_iff_ne.mpr g13
   have t9 : ((c.toNat : Int) == 9) = false := by rw [Int64.byte_eq c 9 9 rfl]; exact beq_eq_false_iff_ne.mpr g9
   have hL := letter_none c g34 g92 g8 g12 g10 g13 g9
   clear g34 g92 g8 g12 g10 g13 g9
   by_cases g32 : 32 ≤ c.toNat
   ·have E := Lib.hid (esc1_plain c hL g32)
    have g32' : ¬ ((c.toNat : Int) < 32) := by omega
    clear hL g32
    go_wp2
    go_roundw
    case rel => exact ⟨k + 1, by go_num, by omega, ⟨_, rfl, by rw [HT.out, E.out, ← Mem.append_mk, ← HS.out]⟩, hbw⟩
    case measure => simp [intOf]; omega
   ·have E := Lib.hid (show Esc.esc1 c = [92, 117, 48, 48, Esc.hexd (c.toNat / 16), Esc.hexd (c.toNat % 16)] by rw [Esc.esc1, hL]; simp only []; rw [if_pos (by omega)])
    have g32' : (c.toNat : Int) < 32 := by omega
    obtain ⟨d1, e1⟩ : ∃ d, d = c.toNat / 16 := ⟨_, rfl⟩
    obtain ⟨d2, e2⟩ : ∃ d, d = c.toNat % 16 := ⟨_, rfl⟩
    have q1 : (c.toNat : Int) / 16 = (d1 : Int) := by omega
    have q2 : (c.toNat : Int) % 16 = (d2 : Int) := by omega
    have f1 : (d1 : Int) < 16 := by omega
    have f2 : (d2 : Int) < 16 := by omega
    have E1 := Lib.hid e1
    have E2 := Lib.hid e2
    have c2 := Conv.two_drew
    have z2 : ∀ a b : Int, (strOfNums [a, b]).size = 2 := fun _ _ => rfl
    clear hL g32 e1 e2
    go_wp2
    go_region
    go_wp2
    go_roundw
    case rel =>
     refine ⟨k + 1, by go_num, by omega, ⟨_, rfl, ?_⟩, (hbw.alloc hbs _).drew⟩
     rw [HT.out, E.out, ← Mem.append_mk, ← HS.out]
     have m1 := small_get ⟨d1, by omega⟩
     have m2 := small_get ⟨d2, by omega⟩
     dsimp only at m1 m2
     rw [m1, m2, two_nums, ← E1.out, ← E2.out, ByteArray.append_assoc]
     rfl
    case measure => simp [intOf]; omega
  ·obtain rfl : k = s.size := by omega
   have HE := Lib.hid (show s.data.toList.take s.size = s.data.toList from List.take_of_length_le (by rw [Array.length_toList]; exact Nat.le_refl _))
   go_wp2
   go_ret
   exact ⟨by rw [HS.out, HE.out]; rfl, hbw⟩
end Ref
end Go.Proofs.YthnbpnfaghjamaaGreat
