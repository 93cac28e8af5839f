/- Texts of the walk, joined. -/
import Derived.Test.YtnnkkgglfajmhaaGreatM11
import Derived.Test.YtnnkkgglfajmhaaGreatM23
set_option maxRecDepth 100000
set_option maxHeartbeats 8000000
namespace Go.Proofs.YtnnkkgglfajmhaaGreat
section
open Go.RowKit
namespace Esc
section
variable (w : World) (b : Nat) (T : TypeId) (pre post : List Value)
theorem may_any (r : Rdr) (x : UInt8) (hf : r.Fits) (h : At.Is w b T pre r.enc post) :
  Calls Tryz.prog 105 #[.pointer (some ⟨b, pre.length, none⟩), .int .u8 x.toNat] w fun e w' => e = .returned (.bool (r.may x)) ∧ w = w' := by
 have c4 := h.cell 4 _ rfl
 have c6 := h.cell 6 _ rfl
 clear h
 obtain ⟨c, state, v, n, pair, er⟩ := r
 have hs : state ≤ 2 := hf.state
 clear hf
 have e92 := Int64.byte_eq x 92 92 rfl
 have e117 := Int64.byte_eq x 117 117 rfl
 rcases (show state = 0 ∨ state = 1 ∨ state = 2 by omega) with h0 | h0 | h0
 ·have HM := hhh (show Rdr.may ⟨c, state, v, n, pair, er⟩ x = (x == 92) by simp [Rdr.may, h0])
  subst h0
  go_enter Tryz.func105, Tryz.ntmps105
  go_wp2
  go_ret
  exact ⟨by rw [HM.out]; rfl, rfl⟩
 ·have HM := hhh (show Rdr.may ⟨c, state, v, n, pair, er⟩ x = (x == 117) by simp [Rdr.may, h0])
  subst h0
  go_enter Tryz.func105, Tryz.ntmps105
  go_wp2
  go_ret
  exact ⟨by rw [HM.out]; rfl, rfl⟩
 ·subst h0
  by_cases n0 : n = 0
  ·have HM := hhh (show Rdr.may ⟨c, 2, v, n, pair, er⟩ x = (hex x == 13) by simp [Rdr.may, n0])
   subst n0
   go_enter Tryz.func105, Tryz.ntmps105
   go_wp2_with (go_at_call 111; refine (hex_any x _).mono ?_; rintro e w' ⟨rfl, rfl⟩)
   go_ret
   exact ⟨by rw [HM.out]; rfl, rfl⟩
  ·by_cases n1 : n = 1
   ·have HM := hhh (show Rdr.may ⟨c, 2, v, n, pair, er⟩ x = decide (12 ≤ hex x) by simp [Rdr.may, n1])
    subst n1
    go_enter Tryz.func105, Tryz.ntmps105
    go_wp2_with (go_at_call 111; refine (hex_any x _).mono ?_; rintro e w' ⟨rfl, rfl⟩)
    go_ret
    exact ⟨by rw [HM.out]; rfl, rfl⟩
   ·have HM := hhh (show Rdr.may ⟨c, 2, v, n, pair, er⟩ x = decide (0 ≤ hex x) by simp [Rdr.may, n0, n1])
    have b0 : ((n : Int) == 0) = false := by simp; omega
    have b1 : ((n : Int) == 1) = false := by simp; omega
    clear n0 n1
    go_enter Tryz.func105, Tryz.ntmps105
    go_wp2_with (go_at_call 111; refine (hex_any x _).mono ?_; rintro e w' ⟨rfl, rfl⟩)
    go_ret
    exact ⟨by rw [HM.out]; rfl, rfl⟩
theorem plain_any (r : Rdr) (x : UInt8) (hf : r.Fits) (h : At.Is w b T pre r.enc post) :
  Calls Tryz.prog 106 #[.pointer (some ⟨b, pre.length, none⟩), .int .u8 x.toNat] w fun e w' =>
   e = .returned (.tuple #[.string ⟨(r.plain x).2.1.toArray⟩, .int .i64 (r.plain x).2.2]) ∧ At.Is w' b T pre (r.plain x).1.enc post ∧ At.Only b w w' := by
 have e34 := Int64.byte_eq x 34 34 rfl
 have e92 := Int64.byte_eq x 92 92 rfl
 obtain ⟨c, state, v, n, pair, er⟩ := r
 by_cases h1 : x.toNat < 32 ∨ x = 34
 ·have HP := hhh (show Rdr.plain ⟨c, state, v, n, pair, er⟩ x = (⟨c, state, v, n, pair, er⟩, [], 2) by rw [Rdr.plain, if_pos h1])
  have H := hhh h
  clear h hf
  rcases (show x.toNat < 32 ∨ (¬ x.toNat < 32 ∧ x = 34) from (Decidable.em _).imp id fun g => ⟨g, h1.resolve_left g⟩) with h2 | ⟨h2, h3⟩
  ·clear h1
   go_enter Tryz.func106, Tryz.ntmps106
   go_wp2
   go_ret2
   exact ⟨by rw [HP.out]; rfl, by rw [HP.out]; exact H.out, At.Only.refl b w⟩
  ·have b34 : (x == 34) = true := by simp [h3]
   clear h1 h3
   go_enter Tryz.func106, Tryz.ntmps106
   go_wp2
   go_ret2
   exact ⟨by rw [HP.out]; rfl, by rw [HP.out]; exact H.out, At.Only.refl b w⟩
 ·have hx32 : ¬ x.toNat < 32 := fun e => h1 (.inl e)
  have b34 : (x == 34) = false := by simpa using fun e => h1 (.inr e)
  have HW := hhh (At.Is.head (l3 := [.int .i64 state, .int .i64 v, .int .i64 n, .int .i64 pair, .int .i64 er]) h)
  have hl : c.lack ≤ 3 := hf.lack
  clear h hf
  have Hd := hhh (show Rdr.plain ⟨c, state, v, n, pair, er⟩ x = _ by rw [Rdr.plain, if_neg h1])
  clear h1
  cases hok : (c.step x).2 with
  | false =>
   have HP := hhh (show Rdr.plain ⟨c, state, v, n, pair, er⟩ x = (⟨(c.step x).1, state, v, n, pair, er⟩, [], 9) by rw [Hd.out, if_pos hok])
   have Hok := hhh hok
   clear hok Hd
   go_enter Tryz.func106, Tryz.ntmps106
   go_wp2_with (fail)
   refine (cstep_any w b T pre _ c x hl HW.out).mono ?_
   rintro e w1 ⟨rfl, i1, o1⟩
   rw [Hok.out]
   have I1 := hhh i1
   clear i1
   go_wp2
   go_ret2
   exact ⟨by rw [HP.out]; rfl, by rw [HP.out]; exact I1.out.join, o1⟩
  | true =>
   by_cases h92 : x = 92
   ·have HP := hhh (show Rdr.plain ⟨c, state, v, n, pair, er⟩ x = (⟨(c.step x).1, 1, v, n, pair, er⟩, [], 0) by rw [Hd.out, if_neg (by simp [hok]), if_pos h92])
    have Hok := hhh hok
    have b92 : (x == 92) = true := by simp [h92]
    clear hok Hd h92
    go_enter Tryz.func106, Tryz.ntmps106
    go_wp2_with (fail)
    refine (cstep_any w b T pre _ c x hl HW.out).mono ?_
    rintro e w1 ⟨rfl, i1, o1⟩
    rw [Hok.out]
    have I2 := hhh (i1.join.set 4 (.int .i64 1) (nlb rfl))
    have k4 := i1.join.cell 4 _ rfl
    have g4 := i1.free (pre.length + 4)
    clear i1
    go_wp2
    go_ret2
    exact ⟨by rw [HP.out]; rfl, by rw [HP.out]; exact I2.out, o1.set _ _⟩
   ·have HP := hhh (show Rdr.plain ⟨c, state, v, n, pair, er⟩ x = (⟨(c.step x).1, state, v, n, pair, er⟩, [x], 0) by rw [Hd.out, if_neg (by simp [hok]), if_neg h92])
    have Hok := hhh hok
    have b92 : (x == 92) = false := by simpa using h92
    clear hok Hd h92
    go_enter Tryz.func106, Tryz.ntmps106
    go_wp2_with (fail)
    refine (cstep_any w b T pre _ c x hl HW.out).mono ?_
    rintro e w1 ⟨rfl, i1, o1⟩
    rw [Hok.out]
    have I1 := hhh i1
    clear i1
    have hcv := Mem.run_one_plain w1 (x.toNat : Int) x rfl
    go_wp2
    go_ret2
    exact ⟨by rw [HP.out]; rfl, by rw [HP.out]; exact (I1.out.alloc _).join, o1.alloc _⟩
end
end Esc
end
section
open Go.RowKit
namespace Esc
def shortIdx (x : UInt8) : Bool :=
 match short x with
 | none => Lib.indexByte [34, 92, 47, 98, 102, 110, 114, 116] x == -1
 | some y => decide (0 ≤ Lib.indexByte [34, 92, 47, 98, 102, 110, 114, 116] x) && decide (Lib.indexByte [34, 92, 47, 98, 102, 110, 114, 116] x < 8) && ([34, 92, 47, 8, 12, 10, 13, 9][(Lib.indexByte [34, 92, 47, 98, 102, 110, 114, 116] x).toNat]? == some y)
theorem short_idx : ∀ n : Fin 256, shortIdx (UInt8.ofNat n.val) = true := by decide +kernel
theorem short_idx' (x : UInt8) : shortIdx x = true := by
 have h1 := short_idx ⟨x.toNat, x.toNat_lt⟩
 have e : UInt8.ofNat x.toNat = x := by simp
 simpa only [e] using h1
theorem short_none (x : UInt8) (h : short x = none) : Lib.indexByte [34, 92, 47, 98, 102, 110, 114, 116] x = -1 := by
 have h1 := short_idx' x
 simp only [shortIdx, h] at h1
 exact beq_iff_eq.1 h1
theorem short_some (x y : UInt8) (h : short x = some y) : ∃ j : Nat, j < 8 ∧ Lib.indexByte [34, 92, 47, 98, 102, 110, 114, 116] x = (j : Int) ∧ [34, 92, 47, 8, 12, 10, 13, 9][j]? = some y := by
 have h1 := short_idx' x
 simp only [shortIdx, h, Bool.and_eq_true, decide_eq_true_eq, beq_iff_eq] at h1
 obtain ⟨⟨h2, h3⟩, h4⟩ := h1
 exact ⟨_, by omega, by omega, h4⟩
theorem idx_any (x : UInt8) (n : Int) (hn : Lib.indexByte [34, 92, 47, 98, 102, 110, 114, 116] x = n) (w : World) :
  Calls Tryz.prog 103 #[.string ⟨#[34, 92, 47, 98, 102, 110, 114, 116]⟩, .int .u8 x.toNat] w fun e w' => e = .returned (.int .i64 n) ∧ w = w' := by
 refine (Tryz.strings_IndexByte ⟨#[34, 92, 47, 98, 102, 110, 114, 116]⟩ (x.toNat : Int) w).mono ?_
 rintro e w' ⟨rfl, rfl⟩
 refine ⟨?_, rfl⟩
 rw [← hn, Int.toNat_natCast, show x.toNat.toUInt8 = x by simp]
def isRune (x : Int) : Bool := if x < 0 ∨ 1114111 < x ∨ (55296 ≤ x ∧ x ≤ 57343) then false else true
theorem put_any (x : Int) (h1 : -1000000000 ≤ x) (h2 : x ≤ 1000000000) (w : World) :
  Calls Tryz.prog 113 #[.int .i64 x] w fun e w' => e = .returned (.tuple #[.string ⟨(rune x).toArray⟩, .bool (isRune x)]) ∧ w = w' := by
 rcases (show x < 0 ∨ 1114111 < x ∨ (0 ≤ x ∧ x < 55296) ∨ (55296 ≤ x ∧ x ≤ 57343) ∨ (57344 ≤ x ∧ x ≤ 1114111) by omega) with h | h | ⟨h, h'⟩ | ⟨h, h'⟩ | ⟨h, h'⟩
 ·have hr := hhh (show rune x = [] by rw [rune, if_pos (by omega)])
  have hi := hhh (show isRune x = false by rw [isRune, if_pos (by omega)])
  go_enter Tryz.func113, Tryz.ntmps113
  go_wp2
  go_ret2
  exact ⟨by rw [hr.out, hi.out]; rfl, rfl⟩
 ·have hr := hhh (show rune x = [] by rw [rune, if_pos (by omega)])
  have hi := hhh (show isRune x = false by rw [isRune, if_pos (by omega)])
  go_enter Tryz.func113, Tryz.ntmps113
  go_wp2
  go_ret2
  exact ⟨by rw [hr.out, hi.out]; rfl, rfl⟩
 ·have hr := hhh (show rune x = (Utf8.encode x).data.toList by rw [rune, if_neg (by omega)])
  have hi := hhh (show isRune x = true by rw [isRune, if_neg (by omega)])
  go_enter Tryz.func113, Tryz.ntmps113
  go_wp2
  go_ret2
  exact ⟨by rw [hr.out, hi.out, Mem.mk_data]; rfl, rfl⟩
 ·have hr := hhh (show rune x = [] by rw [rune, if_pos (by omega)])
  have hi := hhh (show isRune x = false by rw [isRune, if_pos (by omega)])
  go_enter Tryz.func113, Tryz.ntmps113
  go_wp2
  go_ret2
  exact ⟨by rw [hr.out, hi.out]; rfl, rfl⟩
 ·have hr := hhh (show rune x = (Utf8.encode x).data.toList by rw [rune, if_neg (by omega)])
  have hi := hhh (show isRune x = true by rw [isRune, if_neg (by omega)])
  go_enter Tryz.func113, Tryz.ntmps113
  go_wp2
  go_ret2
  exact ⟨by rw [hr.out, hi.out, Mem.mk_data]; rfl, rfl⟩
section
variable (w : World) (b : Nat) (T : TypeId) (pre post : List Value)
theorem behind_any (r : Rdr) (x : UInt8) (h : At.Is w b T pre r.enc post) :
  Calls Tryz.prog 107 #[.pointer (some ⟨b, pre.length, none⟩), .int .u8 x.toNat] w fun e w' =>
   e = .returned (.tuple #[.string ⟨(r.behind x).2.1.toArray⟩, .int .i64 (r.behind x).2.2]) ∧ At.Is w' b T pre (r.behind x).1.enc post ∧ At.Only b w w' := by
 have e117 := Int64.byte_eq x 117 117 rfl
 obtain ⟨c, state, v, n, pair, er⟩ := r
 have k4 := h.cell 4 _ rfl
 have k5 := h.cell 5 _ rfl
 have k6 := h.cell 6 _ rfl
 have g4 := h.free (pre.length + 4)
 have g5 := h.free (pre.length + 5)
 have g6 := h.free (pre.length + 6)
 have H := hhh h
 clear h
 by_cases hu : x = 117
 ·have HP := hhh (show Rdr.behind ⟨c, state, v, n, pair, er⟩ x = (⟨c, 2, 0, 0, pair, er⟩, [], 0) by rw [Rdr.behind, if_pos hu])
  have I2 := hhh (((H.out.set 4 (.int .i64 2) (nlb rfl)).set 5 (.int .i64 0) (nlb rfl)).set 6 (.int .i64 0) (nlb rfl))
  have bu : (x == 117) = true := by simp [hu]
  clear hu
  go_enter Tryz.func107, Tryz.ntmps107
  go_wp2
  go_ret2
  exact ⟨by rw [HP.out]; rfl, by rw [HP.out]; exact I2.out, (((At.Only.refl b w).set _ _).set _ _).set _ _⟩
 ·have bu : (x == 117) = false := by simpa using hu
  cases hs : short x with
  | none =>
   have HP := hhh (show Rdr.behind ⟨c, state, v, n, pair, er⟩ x = (⟨c, state, v, n, pair, er⟩, [], 2) by rw [Rdr.behind, if_neg hu, hs])
   have hi := hhh (short_none x hs)
   clear hs hu
   go_enter Tryz.func107, Tryz.ntmps107
   go_wp2_with (fail)
   refine (idx_any x _ hi.out w).mono ?_
   rintro e w' ⟨rfl, rfl⟩
   go_wp2
   go_ret2
   exact ⟨by rw [HP.out]; rfl, by rw [HP.out]; exact H.out, At.Only.refl b w⟩
  | some y =>
   have HP := hhh (show Rdr.behind ⟨c, state, v, n, pair, er⟩ x = (⟨c, 0, v, n, pair, er⟩, [y], 0) by rw [Rdr.behind, if_neg hu, hs])
   obtain ⟨j, hj, hi, hy⟩ := short_some x y hs
   have HI := hhh hi
   have I2 := hhh (H.out.set 4 (.int .i64 0) (nlb rfl))
   clear hs hu hi
   rcases (show j = 0 ∨ j = 1 ∨ j = 2 ∨ j = 3 ∨ j = 4 ∨ j = 5 ∨ j = 6 ∨ j = 7 by omega) with rfl | rfl | rfl | rfl | rfl | rfl | rfl | rfl
   all_goals
    have hy2 := Option.some.inj hy
    subst hy2
    clear hy hj
    go_enter Tryz.func107, Tryz.ntmps107
    go_wp2_with (fail)
    refine (idx_any x _ HI.out w).mono ?_
    rintro e w' ⟨rfl, rfl⟩
    go_wp2
    go_ret2
    exact ⟨by rw [HP.out]; rfl, by rw [HP.out]; exact I2.out, (At.Only.refl b w).set _ _⟩
end
end Esc
end
end Go.Proofs.YtnnkkgglfajmhaaGreat
