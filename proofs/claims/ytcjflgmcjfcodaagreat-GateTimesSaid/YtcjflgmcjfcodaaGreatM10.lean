/- Texts of the walk, joined. -/
import Derived.Test.YtcjflgmcjfcodaaGreatM08
import Derived.BigQuiet
import Derived.Deep.QuietTactic
import Derived.Lib.Hide
import Derived.Lib.OthersKept
import Derived.Test.YtcjflgmcjfcodaaGreatRows
import Derived.WalkKit
import Derived.WalkLawsBesides
import Derived.WalkSpells
set_option maxRecDepth 100000
set_option maxHeartbeats 8000000
namespace Go.Proofs.Tryz end Go.Proofs.Tryz
namespace Go.Proofs.YtcjflgmcjfcodaaGreat
open Go.Proofs.Tryz
section
open Go.RowKit
namespace Rune
theorem indexByte_none (l : List UInt8) (c : UInt8) (h : ∀ b ∈ l, b ≠ c) : Lib.indexByte l c = -1 := by
 induction l with
 | nil => rfl
 | cons b l ih =>
  have hb : (b == c) = false := by simpa using h b (by simp)
  simp [Lib.indexByte, hb, ih (fun x hx => h x (by simp [hx]))]
theorem aJf (s : ByteArray) (c : Int) (w : World) (hs : ∀ b ∈ s.data.toList, b.toNat < 128) (h1 : 128 ≤ c) (h2 : c < 256) :
  Calls prog 159 #[.string s, .int .u8 c] w fun e w' => e = .returned (.int .i64 (-1)) ∧ w' = w := by
 refine (Tryz.strings_IndexByte s c w).mono ?_
 rintro e w' ⟨rfl, rfl⟩
 refine ⟨?_, rfl⟩
 rw [indexByte_none]
 intro b hb hc
 have := hs b hb
 subst hc
 simp [UInt8.toNat_ofNat'] at this
 omega
theorem high (s : ByteArray) (r : Int) (w : World) (hs : ∀ b ∈ s.data.toList, b.toNat < 128) (hl : s.size ≤ 1000) (h1 : 128 ≤ r) (h2 : r ≤ 2147483647) (h3 : r ≠ 65533) :
  Calls prog 219 #[.string s, .int .i32 r] w fun e w' => e = .returned (.int .i64 (-1)) ∧ Below w.heap.size w w' := by
 have hd : decide (r < 128) = false := by simp; omega
 by_cases hv : Lib.validRune r = true
 ·have hv2 : Utf8.valid r = true := by
   rw [validRune_eq]; simp only [validRune, decide_eq_true_eq]; simp only [Lib.validRune, decide_eq_true_eq] at hv; omega
  obtain ⟨e2, e4, elast⟩ := encode_facts r hv2 h1
  go_enter func219, ntmps219
  go_wp2_with (go_at_call 223; refine (Tryz.utf8_ValidRune _ _).mono ?_; rintro e w' ⟨rfl, rfl⟩)
  go_step3
  go_wp2
  generalize Utf8.encode r = rs at *
  obtain ⟨k, hk⟩ : ∃ k : Nat, (rs.size : Int) - 1 = k := ⟨rs.size - 1, by omega⟩
  rw [hk]
  have hkr : k < rs.size := by omega
  have hkl : 128 ≤ (rs[k]'hkr).toNat := by
   have hkk : rs.size - 1 = k := by omega
   subst hkk
   exact elast _
  clear elast
  have hk' := Lib.hid hk
  clear hk
  by_cases hi : k < s.size
  ·have hsk : (s[k]'hi).toNat < 128 := hs _ (by exact Array.getElem_mem_toList (xs := s.data) hi)
   have hne : (((s[k]'hi).toNat : Int) != ((rs[k]'hkr).toNat : Int)) = true := by simp; omega
   have hb1 : ((128 : Int) ≤ ((rs[k]'hkr).toNat : Int)) := by omega
   have hb2 : (((rs[k]'hkr).toNat : Int) < 256) := by have := (rs[k]'hkr).toNat_lt; omega
   have hsub : ∀ b ∈ (s.extract (k + 1) s.size).data.toList, b.toNat < 128 := fun b hb => hs b (mem_extract hb)
   have hwr : IntKind.i64.wrap ((k : Int) + 1) = (k : Int) + 1 := IntWalk.i64_in _ (by omega)
   have hsl : ∀ wx, (Instr.slice 9 (.string s) (some (.int .i64 ((k : Int) + 1))) none none).run prog wx = .ok (.string (s.extract (k + 1) s.size)) wx := by
    intro wx
    rw [run_slice_string_from_if wx _ _ _ _ underlying9, if_pos ⟨by omega, by omega⟩]
    rfl
   refine wp_loop_rounds 1 ?_
   rw [rounds_succ]
   go_wp2
   go_step3
   go_wp2
   go_quiet (fail)
   have hB1 : Below w'.heap.size w' (w'.drewN nq) := below_drewN (Below.refl _ _) _
   generalize w'.drewN nq = w1 at hB1 ⊢
   go_wp2
   go_quiet ((go_at_call 159; exact Calls.quiet_of_same (aJf _ _ _ hsub hb1 hb2)))
   go_wp2
   rw [Exit.noGoto_ret]
   go_wp2
   rw [Exit.noGoto_ret]
   go_wp2
   go_ret
   exact ⟨rfl, below_drewN hB1 _⟩
  ·refine wp_loop_rounds 1 ?_
   rw [rounds_succ]
   go_wp2
   rw [Exit.noGoto_ret]
   go_wp2
   go_ret
   exact ⟨rfl, Below.refl _ _⟩
 ·go_enter func219, ntmps219
  go_wp2_with (go_at_call 223; refine (Tryz.utf8_ValidRune _ _).mono ?_; rintro e w' ⟨rfl, rfl⟩)
  go_ret
  exact ⟨rfl, Below.refl _ _⟩
theorem bad (s : ByteArray) (w : World) (hs : ∀ b ∈ s.data.toList, b.toNat < 128) :
  Calls prog 219 #[.string s, .int .i32 65533] w fun e w' => e = .returned (.int .i64 (-1)) ∧ Below w.heap.size w w' := by
 go_enter func219, ntmps219
 go_wp2
 go_loopw [] (fun wr => ∃ pos : Nat, wr.heap[w.heap.size]? = some (.stringIter s pos) ∧ Below w.heap.size w wr) (fun wr => s.size - wr.iterPos w.heap.size)
 case atStart =>
  refine ⟨0, ?_, (Below.refl _ w).alloc (Nat.le_refl _) _⟩
  exact World.iter_heap w s 0
 case round =>
  obtain ⟨pos, hit, hbw⟩ := hrel
  have hsz : w.heap.size < wr.heap.size := (Array.getElem?_eq_some_iff.1 hit).1
  by_cases hp : pos < s.size
  ·have ha : (s[pos]'hp).toNat < 128 := hs _ (by exact Array.getElem_mem_toList (xs := s.data) hp)
   have hnx : ∀ ty, (Instr.next (.pointer (some ⟨w.heap.size, 0, none⟩)) true ty).run prog wr = _ := fun ty => Lib.run_next_ascii_at wr w.heap.size s pos ty hit hp ha
   have hit2 := Lib.iterAt_heap wr w.heap.size s pos (pos + 1) hit
   have hbw2 := Lib.below_iterAt hbw (k := w.heap.size) (by omega) s (pos + 1)
   have hne : (((s[pos]'hp).toNat : Int) == 65533) = false := by simp; omega
   go_wp2
   go_roundw
   case rel => exact ⟨pos + 1, hit2, hbw2⟩
   case measure =>
    simp only [World.iterPos, hit2, hit]
    omega
  ·have hnx : ∀ ty, (Instr.next (.pointer (some ⟨w.heap.size, 0, none⟩)) true ty).run prog wr = _ := fun ty => Lib.run_next_end_at wr w.heap.size s pos ty hit hp
   go_wp2
   go_ret
   exact ⟨rfl, hbw⟩
theorem none (s : ByteArray) (r : Int) (w : World) (hs : ∀ b ∈ s.data.toList, b.toNat < 128) (hl : s.size ≤ 1000) (h1 : 128 ≤ r) (h2 : r ≤ 2147483647) :
  Calls prog 219 #[.string s, .int .i32 r] w fun e w' => e = .returned (.int .i64 (-1)) ∧ Below w.heap.size w w' := by
 by_cases h3 : r = 65533
 ·subst h3; exact bad s w hs
 ·exact high s r w hs hl h1 h2 h3
end Rune
end
end Go.Proofs.YtcjflgmcjfcodaaGreat
