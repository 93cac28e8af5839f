/- Texts of the walk, joined. -/
import Derived.Test.YtnnkkgglfajmhaaGreatM24
import Derived.BigRegion
import Derived.ChangeAlike
import Derived.RegionTactic
set_option maxRecDepth 100000
set_option maxHeartbeats 8000000
namespace Go.Proofs.YtnnkkgglfajmhaaGreat
section
open Go.RowKit
namespace Esc
section
variable (w : World) (b : Nat) (T : TypeId) (pre post : List Value)
theorem hex_is (x : UInt8) (d : Nat) (hd : hex x = (d : Int)) : Hid (∀ w : World, Calls Tryz.prog 111 #[.int .u8 x.toNat] w fun e w' => e = .returned (.int .i64 (d : Int)) ∧ w = w') := by
 intro w; rw [← hd]; exact hex_any x w
theorem digit_more (c : Chk) (state v n pair er d : Nat) (Y : Int) (x : UInt8) (hd : hex x = (d : Int)) (hd16 : d < 16) (hv : v < 65536) (hn : n + 1 < 4) (hY : Y = ((v * 16 + d : Nat) : Int))
  (h : At.Is w b T pre (Rdr.enc ⟨c, state, v, n, pair, er⟩) post) :
  Calls Tryz.prog 108 #[.pointer (some ⟨b, pre.length, none⟩), .int .u8 x.toNat] w fun e w' =>
   e = .returned (.tuple #[.string ⟨#[]⟩, .int .i64 0]) ∧ At.Is w' b T pre (c.enc ++ [.int .i64 state, .int .i64 Y, .int .i64 ((n : Int) + 1), .int .i64 pair, .int .i64 er]) post ∧ At.Only b w w' := by
 have HH := hex_is x d hd
 have k4 := h.cell 4 _ rfl
 have k5 := h.cell 5 _ rfl
 have k6 := h.cell 6 _ rfl
 have k7 := h.cell 7 _ rfl
 have g4 := h.free (pre.length + 4)
 have g5 := h.free (pre.length + 5)
 have g6 := h.free (pre.length + 6)
 have g7 := h.free (pre.length + 7)
 have hor := Int64.or4 v d (by omega) hd16
 rw [← hY] at hor
 have hY0 : 0 ≤ Y := by omega
 have hY1 : Y < 1048592 := by omega
 have I := hhh ((h.set 5 (.int .i64 Y) (nlb rfl)).set 6 (.int .i64 ((n : Int) + 1)) (nlb rfl))
 clear hY hd h
 go_enter Tryz.func108, Tryz.ntmps108
 go_wp2_with (go_at_call 111; refine (HH.out _).mono ?_; rintro e w' ⟨rfl, rfl⟩)
 go_region
 go_wp2
 go_ret2
 exact ⟨rfl, I.out.drew, (((At.Only.refl b w).set _ _).set _ _).drew⟩
theorem digit_pair (c : Chk) (state v n pair er d : Nat) (Y : Int) (x : UInt8) (hd : hex x = (d : Int)) (hd16 : d < 16) (hv : v < 65536) (hn : 4 ≤ n + 1) (hn2 : n ≤ 4) (hY : Y = ((v * 16 + d : Nat) : Int)) (hp : 0 < pair) (hp2 : pair < 65536)
  (h : At.Is w b T pre (Rdr.enc ⟨c, state, v, n, pair, er⟩) post) :
  Calls Tryz.prog 108 #[.pointer (some ⟨b, pre.length, none⟩), .int .u8 x.toNat] w fun e w' =>
   e = .returned (.tuple #[.string ⟨(rune (65536 + ((pair : Int) - 55296) * 1024 + Y - 56320)).toArray⟩, .int .i64 0]) ∧ At.Is w' b T pre (c.enc ++ [.int .i64 0, .int .i64 Y, .int .i64 ((n : Int) + 1), .int .i64 0, .int .i64 er]) post ∧ At.Only b w w' := by
 have HH := hex_is x d hd
 have k4 := h.cell 4 _ rfl
 have k5 := h.cell 5 _ rfl
 have k6 := h.cell 6 _ rfl
 have k7 := h.cell 7 _ rfl
 have g4 := h.free (pre.length + 4)
 have g5 := h.free (pre.length + 5)
 have g6 := h.free (pre.length + 6)
 have g7 := h.free (pre.length + 7)
 have hor := Int64.or4 v d (by omega) hd16
 rw [← hY] at hor
 have hY0 : 0 ≤ Y := by omega
 have hY1 : Y < 1048592 := by omega
 have I := hhh ((((h.set 5 (.int .i64 Y) (nlb rfl)).set 6 (.int .i64 ((n : Int) + 1)) (nlb rfl)).set 4 (.int .i64 0) (nlb rfl)).set 7 (.int .i64 0) (nlb rfl))
 clear hY hd h
 go_enter Tryz.func108, Tryz.ntmps108
 go_wp2_with (go_at_call 111; refine (HH.out _).mono ?_; rintro e w' ⟨rfl, rfl⟩)
 go_region
 go_wp2_with (go_at_call 113; refine (put_any _ (by omega) (by omega) _).mono ?_; rintro e w' ⟨rfl, rfl⟩)
 go_ret2
 exact ⟨rfl, I.out.drew, (((((At.Only.refl b w).set _ _).set _ _).set _ _).set _ _).drew⟩
theorem digit_low (c : Chk) (state v n er d : Nat) (Y : Int) (x : UInt8) (hd : hex x = (d : Int)) (hd16 : d < 16) (hv : v < 65536) (hn : 4 ≤ n + 1) (hn2 : n ≤ 4) (hY : Y = ((v * 16 + d : Nat) : Int)) (h5 : 56320 ≤ Y) (h6 : Y < 57344)
  (h : At.Is w b T pre (Rdr.enc ⟨c, state, v, n, 0, er⟩) post) :
  Calls Tryz.prog 108 #[.pointer (some ⟨b, pre.length, none⟩), .int .u8 x.toNat] w fun e w' =>
   e = .returned (.tuple #[.string ⟨#[]⟩, .int .i64 9]) ∧ At.Is w' b T pre (c.enc ++ [.int .i64 0, .int .i64 Y, .int .i64 ((n : Int) + 1), .int .i64 0, .int .i64 er]) post ∧ At.Only b w w' := by
 have HH := hex_is x d hd
 have k4 := h.cell 4 _ rfl
 have k5 := h.cell 5 _ rfl
 have k6 := h.cell 6 _ rfl
 have k7 := h.cell 7 _ rfl
 have g4 := h.free (pre.length + 4)
 have g5 := h.free (pre.length + 5)
 have g6 := h.free (pre.length + 6)
 have g7 := h.free (pre.length + 7)
 have hor := Int64.or4 v d (by omega) hd16
 rw [← hY] at hor
 have hY0 : 0 ≤ Y := by omega
 have hY1 : Y < 1048592 := by omega
 have I := hhh (((h.set 5 (.int .i64 Y) (nlb rfl)).set 6 (.int .i64 ((n : Int) + 1)) (nlb rfl)).set 4 (.int .i64 0) (nlb rfl))
 clear hY hd h
 go_enter Tryz.func108, Tryz.ntmps108
 go_wp2_with (go_at_call 111; refine (HH.out _).mono ?_; rintro e w' ⟨rfl, rfl⟩)
 go_region
 go_wp2
 go_ret2
 exact ⟨rfl, I.out.drew, ((((At.Only.refl b w).set _ _).set _ _).set _ _).drew⟩
theorem digit_high (c : Chk) (state v n er d : Nat) (Y : Int) (x : UInt8) (hd : hex x = (d : Int)) (hd16 : d < 16) (hv : v < 65536) (hn : 4 ≤ n + 1) (hn2 : n ≤ 4) (hY : Y = ((v * 16 + d : Nat) : Int)) (h5 : 55296 ≤ Y) (h6 : Y < 56320)
  (h : At.Is w b T pre (Rdr.enc ⟨c, state, v, n, 0, er⟩) post) :
  Calls Tryz.prog 108 #[.pointer (some ⟨b, pre.length, none⟩), .int .u8 x.toNat] w fun e w' =>
   e = .returned (.tuple #[.string ⟨#[]⟩, .int .i64 0]) ∧ At.Is w' b T pre (c.enc ++ [.int .i64 0, .int .i64 Y, .int .i64 ((n : Int) + 1), .int .i64 Y, .int .i64 er]) post ∧ At.Only b w w' := by
 have HH := hex_is x d hd
 have k4 := h.cell 4 _ rfl
 have k5 := h.cell 5 _ rfl
 have k6 := h.cell 6 _ rfl
 have k7 := h.cell 7 _ rfl
 have g4 := h.free (pre.length + 4)
 have g5 := h.free (pre.length + 5)
 have g6 := h.free (pre.length + 6)
 have g7 := h.free (pre.length + 7)
 have hor := Int64.or4 v d (by omega) hd16
 rw [← hY] at hor
 have hY0 : 0 ≤ Y := by omega
 have hY1 : Y < 1048592 := by omega
 have I := hhh ((((h.set 5 (.int .i64 Y) (nlb rfl)).set 6 (.int .i64 ((n : Int) + 1)) (nlb rfl)).set 4 (.int .i64 0) (nlb rfl)).set 7 (.int .i64 Y) (nlb rfl))
 clear hY hd h
 go_enter Tryz.func108, Tryz.ntmps108
 go_wp2_with (go_at_call 111; refine (HH.out _).mono ?_; rintro e w' ⟨rfl, rfl⟩)
 go_region
 go_wp2
 go_ret2
 exact ⟨rfl, I.out.drew, (((((At.Only.refl b w).set _ _).set _ _).set _ _).set _ _).drew⟩
theorem digit_rune1 (c : Chk) (state v n er d : Nat) (Y : Int) (x : UInt8) (hd : hex x = (d : Int)) (hd16 : d < 16) (hv : v < 65536) (hn : 4 ≤ n + 1) (hn2 : n ≤ 4) (hY : Y = ((v * 16 + d : Nat) : Int)) (h5 : Y < 55296)
  (h : At.Is w b T pre (Rdr.enc ⟨c, state, v, n, 0, er⟩) post) :
  Calls Tryz.prog 108 #[.pointer (some ⟨b, pre.length, none⟩), .int .u8 x.toNat] w fun e w' =>
   e = .returned (.tuple #[.string ⟨(rune Y).toArray⟩, .int .i64 0]) ∧ At.Is w' b T pre (c.enc ++ [.int .i64 0, .int .i64 Y, .int .i64 ((n : Int) + 1), .int .i64 0, .int .i64 er]) post ∧ At.Only b w w' := by
 have HH := hex_is x d hd
 have k4 := h.cell 4 _ rfl
 have k5 := h.cell 5 _ rfl
 have k6 := h.cell 6 _ rfl
 have k7 := h.cell 7 _ rfl
 have g4 := h.free (pre.length + 4)
 have g5 := h.free (pre.length + 5)
 have g6 := h.free (pre.length + 6)
 have g7 := h.free (pre.length + 7)
 have hor := Int64.or4 v d (by omega) hd16
 rw [← hY] at hor
 have hY0 : 0 ≤ Y := by omega
 have hY1 : Y < 1048592 := by omega
 have I := hhh (((h.set 5 (.int .i64 Y) (nlb rfl)).set 6 (.int .i64 ((n : Int) + 1)) (nlb rfl)).set 4 (.int .i64 0) (nlb rfl))
 clear hY hd h
 go_enter Tryz.func108, Tryz.ntmps108
 go_wp2_with (go_at_call 111; refine (HH.out _).mono ?_; rintro e w' ⟨rfl, rfl⟩)
 go_region
 go_wp2_with (go_at_call 113; refine (put_any _ (by omega) (by omega) _).mono ?_; rintro e w' ⟨rfl, rfl⟩)
 go_ret2
 exact ⟨rfl, I.out.drew, ((((At.Only.refl b w).set _ _).set _ _).set _ _).drew⟩
theorem digit_rune2 (c : Chk) (state v n er d : Nat) (Y : Int) (x : UInt8) (hd : hex x = (d : Int)) (hd16 : d < 16) (hv : v < 65536) (hn : 4 ≤ n + 1) (hn2 : n ≤ 4) (hY : Y = ((v * 16 + d : Nat) : Int)) (h5 : 57344 ≤ Y)
  (h : At.Is w b T pre (Rdr.enc ⟨c, state, v, n, 0, er⟩) post) :
  Calls Tryz.prog 108 #[.pointer (some ⟨b, pre.length, none⟩), .int .u8 x.toNat] w fun e w' =>
   e = .returned (.tuple #[.string ⟨(rune Y).toArray⟩, .int .i64 0]) ∧ At.Is w' b T pre (c.enc ++ [.int .i64 0, .int .i64 Y, .int .i64 ((n : Int) + 1), .int .i64 0, .int .i64 er]) post ∧ At.Only b w w' := by
 have HH := hex_is x d hd
 have k4 := h.cell 4 _ rfl
 have k5 := h.cell 5 _ rfl
 have k6 := h.cell 6 _ rfl
 have k7 := h.cell 7 _ rfl
 have g4 := h.free (pre.length + 4)
 have g5 := h.free (pre.length + 5)
 have g6 := h.free (pre.length + 6)
 have g7 := h.free (pre.length + 7)
 have hor := Int64.or4 v d (by omega) hd16
 rw [← hY] at hor
 have hY0 : 0 ≤ Y := by omega
 have hY1 : Y < 1048592 := by omega
 have I := hhh (((h.set 5 (.int .i64 Y) (nlb rfl)).set 6 (.int .i64 ((n : Int) + 1)) (nlb rfl)).set 4 (.int .i64 0) (nlb rfl))
 clear hY hd h
 go_enter Tryz.func108, Tryz.ntmps108
 go_wp2_with (go_at_call 111; refine (HH.out _).mono ?_; rintro e w' ⟨rfl, rfl⟩)
 go_region
 go_wp2_with (go_at_call 113; refine (put_any _ (by omega) (by omega) _).mono ?_; rintro e w' ⟨rfl, rfl⟩)
 go_ret2
 exact ⟨rfl, I.out.drew, ((((At.Only.refl b w).set _ _).set _ _).set _ _).drew⟩
theorem digit_none (r : Rdr) (x : UInt8) (hx : hex x < 0) :
  Calls Tryz.prog 108 #[.pointer (some ⟨b, pre.length, none⟩), .int .u8 x.toNat] w fun e w' =>
   e = .returned (.tuple #[.string ⟨(r.digit x).2.1.toArray⟩, .int .i64 (r.digit x).2.2]) ∧ w = w' := by
 have HP := hhh (show r.digit x = (r, [], 2) by rw [Rdr.digit, if_pos hx])
 go_enter Tryz.func108, Tryz.ntmps108
 go_wp2_with (go_at_call 111; refine (hex_any x _).mono ?_; rintro e w' ⟨rfl, rfl⟩)
 go_ret2
 exact ⟨by rw [HP.out]; rfl, rfl⟩
theorem digit_any (r : Rdr) (x : UInt8) (hf : r.Fits) (h : At.Is w b T pre r.enc post) :
  Calls Tryz.prog 108 #[.pointer (some ⟨b, pre.length, none⟩), .int .u8 x.toNat] w fun e w' =>
   e = .returned (.tuple #[.string ⟨(r.digit x).2.1.toArray⟩, .int .i64 (r.digit x).2.2]) ∧ At.Is w' b T pre (r.digit x).1.enc post ∧ At.Only b w w' := by
 have hr := hex_range x
 have hv : r.r < 65536 := Nat.lt_of_lt_of_le hf.val (Nat.pow_le_pow_right (n := 16) (by decide) hf.n)
 have hn : r.n ≤ 4 := hf.n
 have hp : r.pair < 65536 := hf.pair
 obtain ⟨c, state, v, n, pair, er⟩ := r
 simp only at hv hn hp
 by_cases hx : hex x < 0
 ·refine (digit_none w b pre ⟨c, state, v, n, pair, er⟩ x hx).mono ?_
  rintro e w' ⟨rfl, rfl⟩
  refine ⟨rfl, ?_, At.Only.refl b _⟩
  rw [Rdr.digit, if_pos hx]
  exact h
 ·obtain ⟨d, hd⟩ := Int.eq_ofNat_of_zero_le (show 0 ≤ hex x by omega)
  have hd16 : d < 16 := by omega
  have sd : (hex x).toNat = d := by rw [hd]; rfl
  simp only [Rdr.digit, if_neg hx, sd]
  by_cases h4 : n + 1 < 4
  ·rw [if_pos h4]
   exact digit_more w b T pre post c state v n pair er d ((v * 16 + d : Nat) : Int) x hd hd16 hv h4 rfl h
  ·rw [if_neg h4]
   by_cases hpp : 0 < pair
   ·rw [if_pos hpp]
    exact digit_pair w b T pre post c state v n pair er d ((v * 16 + d : Nat) : Int) x hd hd16 hv (by omega) hn rfl hpp hp h
   ·rw [if_neg hpp]
    obtain rfl : pair = 0 := by omega
    by_cases h5 : 56320 ≤ v * 16 + d ∧ v * 16 + d < 57344
    ·rw [if_pos h5]
     exact digit_low w b T pre post c state v n er d ((v * 16 + d : Nat) : Int) x hd hd16 hv (by omega) hn rfl (by omega) (by omega) h
    ·rw [if_neg h5]
     by_cases h6 : 55296 ≤ v * 16 + d ∧ v * 16 + d < 56320
     ·rw [if_pos h6]
      exact digit_high w b T pre post c state v n er d ((v * 16 + d : Nat) : Int) x hd hd16 hv (by omega) hn rfl (by omega) (by omega) h
     ·rw [if_neg h6]
      by_cases h7 : v * 16 + d < 55296
      ·exact digit_rune1 w b T pre post c state v n er d ((v * 16 + d : Nat) : Int) x hd hd16 hv (by omega) hn rfl (by omega) h
      ·exact digit_rune2 w b T pre post c state v n er d ((v * 16 + d : Nat) : Int) x hd hd16 hv (by omega) hn rfl (by omega) h
end
end Esc
end
section
open Go.RowKit
namespace Esc
def stepOut (o : Rdr × List UInt8 × Nat) : Ending := .returned (.tuple #[.string ⟨o.2.1.toArray⟩, .int .i64 o.2.2])
section
variable (w : World) (b : Nat) (T : TypeId) (pre post : List Value)
theorem step_plain_any (c : Chk) (v n pair : Nat) (x : UInt8) (hf : Rdr.Fits ⟨c, 0, v, n, pair, 0⟩) (h : At.Is w b T pre (Rdr.enc ⟨c, 0, v, n, pair, 0⟩) post) (hp : pair = 0 ∨ (0 < pair ∧ Rdr.may ⟨c, 0, v, n, pair, 0⟩ x = true)) :
  Calls Tryz.prog 101 #[.pointer (some ⟨b, pre.length, none⟩), .int .u8 x.toNat] w fun e w' =>
   e = stepOut (latch (Rdr.plain ⟨c, 0, v, n, pair, 0⟩ x)) ∧ At.Is w' b T pre (latch (Rdr.plain ⟨c, 0, v, n, pair, 0⟩ x)).1.enc post ∧ At.Only b w w' := by
 have k4 := h.cell 4 _ rfl
 have k7 := h.cell 7 _ rfl
 have k8 := h.cell 8 _ rfl
 have H := hhh h
 have HF := hhh hf
 clear h hf
 rcases hp with rfl | ⟨hp, hm⟩
 ·go_enter Tryz.func101, Tryz.ntmps101
  go_wp2_with (fail)
  refine (plain_any w b T pre post _ x HF.out H.out).mono ?_
  rintro e w1 ⟨rfl, i1, o1⟩
  have g8 := i1.free (pre.length + 8)
  have k8' := i1.cell 8 _ rfl
  have I2 := hhh (i1.set 8 (.int .i64 (Rdr.plain ⟨c, 0, v, n, 0, 0⟩ x).2.2) (nlb rfl))
  clear i1
  go_wp2
  go_quiet (fail)
  go_wp2
  go_ret2
  exact ⟨rfl, I2.out.drewN _, (o1.set _ _).drewN _⟩
 ·have HM := hhh hm
  clear hm
  go_enter Tryz.func101, Tryz.ntmps101
  go_wp2_with (fail)
  refine (may_any w b T pre post _ x HF.out H.out).mono ?_
  rintro e w' ⟨rfl, rfl⟩
  rw [HM.out]
  go_wp2_with (fail)
  refine (plain_any w b T pre post _ x HF.out H.out).mono ?_
  rintro e w1 ⟨rfl, i1, o1⟩
  have g8 := i1.free (pre.length + 8)
  have k8' := i1.cell 8 _ rfl
  have I2 := hhh (i1.set 8 (.int .i64 (Rdr.plain ⟨c, 0, v, n, pair, 0⟩ x).2.2) (nlb rfl))
  clear i1
  go_wp2
  go_quiet (fail)
  go_wp2
  go_ret2
  exact ⟨rfl, I2.out.drewN _, (o1.set _ _).drewN _⟩
theorem step_behind_any (c : Chk) (v n pair : Nat) (x : UInt8) (hf : Rdr.Fits ⟨c, 1, v, n, pair, 0⟩) (h : At.Is w b T pre (Rdr.enc ⟨c, 1, v, n, pair, 0⟩) post) (hp : pair = 0 ∨ (0 < pair ∧ Rdr.may ⟨c, 1, v, n, pair, 0⟩ x = true)) :
  Calls Tryz.prog 101 #[.pointer (some ⟨b, pre.length, none⟩), .int .u8 x.toNat] w fun e w' =>
   e = stepOut (latch (Rdr.behind ⟨c, 1, v, n, pair, 0⟩ x)) ∧ At.Is w' b T pre (latch (Rdr.behind ⟨c, 1, v, n, pair, 0⟩ x)).1.enc post ∧ At.Only b w w' := by
 have k4 := h.cell 4 _ rfl
 have k7 := h.cell 7 _ rfl
 have k8 := h.cell 8 _ rfl
 have H := hhh h
 have HF := hhh hf
 clear h hf
 rcases hp with rfl | ⟨hp, hm⟩
 ·go_enter Tryz.func101, Tryz.ntmps101
  go_wp2_with (fail)
  refine (behind_any w b T pre post _ x H.out).mono ?_
  rintro e w1 ⟨rfl, i1, o1⟩
  have g8 := i1.free (pre.length + 8)
  have k8' := i1.cell 8 _ rfl
  have I2 := hhh (i1.set 8 (.int .i64 (Rdr.behind ⟨c, 1, v, n, 0, 0⟩ x).2.2) (nlb rfl))
  clear i1
  go_wp2
  go_quiet (fail)
  go_wp2
  go_ret2
  exact ⟨rfl, I2.out.drewN _, (o1.set _ _).drewN _⟩
 ·have HM := hhh hm
  clear hm
  go_enter Tryz.func101, Tryz.ntmps101
  go_wp2_with (fail)
  refine (may_any w b T pre post _ x HF.out H.out).mono ?_
  rintro e w' ⟨rfl, rfl⟩
  rw [HM.out]
  go_wp2_with (fail)
  refine (behind_any w b T pre post _ x H.out).mono ?_
  rintro e w1 ⟨rfl, i1, o1⟩
  have g8 := i1.free (pre.length + 8)
  have k8' := i1.cell 8 _ rfl
  have I2 := hhh (i1.set 8 (.int .i64 (Rdr.behind ⟨c, 1, v, n, pair, 0⟩ x).2.2) (nlb rfl))
  clear i1
  go_wp2
  go_quiet (fail)
  go_wp2
  go_ret2
  exact ⟨rfl, I2.out.drewN _, (o1.set _ _).drewN _⟩
theorem step_digit_any (c : Chk) (v n pair : Nat) (x : UInt8) (hf : Rdr.Fits ⟨c, 2, v, n, pair, 0⟩) (h : At.Is w b T pre (Rdr.enc ⟨c, 2, v, n, pair, 0⟩) post) (hp : pair = 0 ∨ (0 < pair ∧ Rdr.may ⟨c, 2, v, n, pair, 0⟩ x = true)) :
  Calls Tryz.prog 101 #[.pointer (some ⟨b, pre.length, none⟩), .int .u8 x.toNat] w fun e w' =>
   e = stepOut (latch (Rdr.digit ⟨c, 2, v, n, pair, 0⟩ x)) ∧ At.Is w' b T pre (latch (Rdr.digit ⟨c, 2, v, n, pair, 0⟩ x)).1.enc post ∧ At.Only b w w' := by
 have k4 := h.cell 4 _ rfl
 have k7 := h.cell 7 _ rfl
 have k8 := h.cell 8 _ rfl
 have H := hhh h
 have HF := hhh hf
 clear h hf
 rcases hp with rfl | ⟨hp, hm⟩
 ·go_enter Tryz.func101, Tryz.ntmps101
  go_wp2_with (fail)
  refine (digit_any w b T pre post _ x HF.out H.out).mono ?_
  rintro e w1 ⟨rfl, i1, o1⟩
  have g8 := i1.free (pre.length + 8)
  have k8' := i1.cell 8 _ rfl
  have I2 := hhh (i1.set 8 (.int .i64 (Rdr.digit ⟨c, 2, v, n, 0, 0⟩ x).2.2) (nlb rfl))
  clear i1
  go_wp2
  go_quiet (fail)
  go_wp2
  go_ret2
  exact ⟨rfl, I2.out.drewN _, (o1.set _ _).drewN _⟩
 ·have HM := hhh hm
  clear hm
  go_enter Tryz.func101, Tryz.ntmps101
  go_wp2_with (fail)
  refine (may_any w b T pre post _ x HF.out H.out).mono ?_
  rintro e w' ⟨rfl, rfl⟩
  rw [HM.out]
  go_wp2_with (fail)
  refine (digit_any w b T pre post _ x HF.out H.out).mono ?_
  rintro e w1 ⟨rfl, i1, o1⟩
  have g8 := i1.free (pre.length + 8)
  have k8' := i1.cell 8 _ rfl
  have I2 := hhh (i1.set 8 (.int .i64 (Rdr.digit ⟨c, 2, v, n, pair, 0⟩ x).2.2) (nlb rfl))
  clear i1
  go_wp2
  go_quiet (fail)
  go_wp2
  go_ret2
  exact ⟨rfl, I2.out.drewN _, (o1.set _ _).drewN _⟩
theorem step_any (r : Rdr) (x : UInt8) (hf : r.Fits) (h : At.Is w b T pre r.enc post) :
  Calls Tryz.prog 101 #[.pointer (some ⟨b, pre.length, none⟩), .int .u8 x.toNat] w fun e w' =>
   e = stepOut (r.step x) ∧ At.Is w' b T pre (r.step x).1.enc post ∧ At.Only b w w' := by
 obtain ⟨c, state, v, n, pair, er⟩ := r
 have hs : state ≤ 2 := hf.state
 by_cases he : er = 0
 ·subst he
  by_cases hp : 0 < pair ∧ Rdr.may ⟨c, state, v, n, pair, 0⟩ x = false
  ·have HS := hhh (show Rdr.step ⟨c, state, v, n, pair, 0⟩ x = (⟨c, state, v, n, pair, 9⟩, [], 9) by rw [Rdr.step, if_neg (by simp), if_pos hp])
   obtain ⟨hp, hm⟩ := hp
   have k7 := h.cell 7 _ rfl
   have k8 := h.cell 8 _ rfl
   have g8 := h.free (pre.length + 8)
   have H := hhh h
   have HF := hhh hf
   have HM := hhh hm
   have I2 := hhh (h.set 8 (.int .i64 9) (nlb rfl))
   clear h hf hm
   go_enter Tryz.func101, Tryz.ntmps101
   go_wp2_with (fail)
   refine (may_any w b T pre post _ x HF.out H.out).mono ?_
   rintro e w' ⟨rfl, rfl⟩
   rw [HM.out]
   go_wp2
   go_quiet (fail)
   go_wp2
   go_ret2
   exact ⟨by rw [HS.out]; rfl, by rw [HS.out]; exact I2.out.drewN _, ((At.Only.refl b w).set _ _).drewN _⟩
  ·have hp2 : pair = 0 ∨ (0 < pair ∧ Rdr.may ⟨c, state, v, n, pair, 0⟩ x = true) := by
    by_cases h0 : pair = 0
    ·exact .inl h0
    ·refine .inr ⟨by omega, ?_⟩
     cases hm : Rdr.may ⟨c, state, v, n, pair, 0⟩ x with
     | true => rfl
     | false => exact absurd ⟨by omega, hm⟩ hp
   have hS : Rdr.step ⟨c, state, v, n, pair, 0⟩ x = if state = 0 then latch (Rdr.plain ⟨c, state, v, n, pair, 0⟩ x) else if state = 1 then latch (Rdr.behind ⟨c, state, v, n, pair, 0⟩ x) else latch (Rdr.digit ⟨c, state, v, n, pair, 0⟩ x) := by
    rw [Rdr.step, if_neg (by simp), if_neg hp]
   rw [hS]
   rcases (show state = 0 ∨ state = 1 ∨ state = 2 by omega) with rfl | rfl | rfl
   ·exact step_plain_any w b T pre post c v n pair x hf h hp2
   ·exact step_behind_any w b T pre post c v n pair x hf h hp2
   ·exact step_digit_any w b T pre post c v n pair x hf h hp2
 ·have HS := hhh (show Rdr.step ⟨c, state, v, n, pair, er⟩ x = (⟨c, state, v, n, pair, er⟩, [], er) by rw [Rdr.step, if_pos he])
  have k8 := h.cell 8 _ rfl
  have he2 : ((er : Int) != 0) = true := by simp; omega
  have H := hhh h
  clear h hf he
  go_enter Tryz.func101, Tryz.ntmps101
  go_wp2
  go_quiet (fail)
  go_wp2
  go_ret2
  exact ⟨by rw [HS.out]; rfl, by rw [HS.out]; exact H.out.drewN _, (At.Only.refl b w).drewN _⟩
theorem whole_any (r : Rdr) (h : At.Is w b T pre r.enc post) :
  Calls Tryz.prog 100 #[.pointer (some ⟨b, pre.length, none⟩)] w fun e w' => e = .returned (.bool r.whole) ∧ w = w' := by
 obtain ⟨c, state, v, n, pair, er⟩ := r
 have k4 := h.cell 4 _ rfl
 have k7 := h.cell 7 _ rfl
 have k8 := h.cell 8 _ rfl
 have HW := hhh (At.Is.head (l3 := [.int .i64 state, .int .i64 v, .int .i64 n, .int .i64 pair, .int .i64 er]) h)
 clear h
 by_cases h1 : er = 0
 ·by_cases h2 : state = 0
  ·by_cases h3 : pair = 0
   ·subst h1 h2 h3
    have HS := hhh (show Rdr.whole ⟨c, 0, v, n, 0, 0⟩ = c.whole by simp [Rdr.whole])
    go_enter Tryz.func100, Tryz.ntmps100
    go_wp2_with (fail)
    refine (cwhole_any w b T pre _ c HW.out).mono ?_
    rintro e w' ⟨rfl, rfl⟩
    go_wp2
    go_ret
    exact ⟨by rw [HS.out]; rfl, rfl⟩
   ·subst h1 h2
    have HS := hhh (show Rdr.whole ⟨c, 0, v, n, pair, 0⟩ = false by simp [Rdr.whole, h3])
    have b3 : ((pair : Int) == 0) = false := by simp; omega
    clear h3
    go_enter Tryz.func100, Tryz.ntmps100
    go_wp2
    go_ret
    exact ⟨by rw [HS.out]; rfl, rfl⟩
  ·subst h1
   have HS := hhh (show Rdr.whole ⟨c, state, v, n, pair, 0⟩ = false by simp [Rdr.whole, h2])
   have b3 : ((state : Int) == 0) = false := by simp; omega
   clear h2
   go_enter Tryz.func100, Tryz.ntmps100
   go_wp2
   go_ret
   exact ⟨by rw [HS.out]; rfl, rfl⟩
 ·have HS := hhh (show Rdr.whole ⟨c, state, v, n, pair, er⟩ = false by simp [Rdr.whole, h1])
  have b3 : ((er : Int) == 0) = false := by simp; omega
  clear h1
  go_enter Tryz.func100, Tryz.ntmps100
  go_wp2
  go_ret
  exact ⟨by rw [HS.out]; rfl, rfl⟩
end
end Esc
end
end Go.Proofs.YtnnkkgglfajmhaaGreat
