/- The walk of escape.Reader's digits. -/
import Derived.Test.YtnpbleaikdpjiaaDoorEscT
import Derived.RegionTactic
import Derived.ChangeAlike
import Derived.BigRegion
namespace Go.Proofs.YtnpbleaikdpjiaaDoor
open Go.RowKit
namespace Esc
section
variable (w : World) (b : Nat) (T : TypeId) (pre post : List Value)

theorem hex_is (x : UInt8) (d : Nat) (hd : hex x = (d : Int)) : Hid (∀ w : World, Calls Tryd.prog 31 #[.int .u8 x.toNat] w fun e w' => e = .returned (.int .i64 (d : Int)) ∧ w = w') := by
  intro w; rw [← hd]; exact hex_any x w

set_option maxRecDepth 100000 in
set_option maxHeartbeats 1000000 in
theorem digit_more (c : Chk) (state v n pair er d : Nat) (Y : Int) (x : UInt8) (hd : hex x = (d : Int)) (hd16 : d < 16) (hv : v < 65536) (hn : n + 1 < 4) (hY : Y = ((v * 16 + d : Nat) : Int)) 
    (h : At.Is w b T pre (Rdr.enc ⟨c, state, v, n, pair, er⟩) post) :
    Calls Tryd.prog 22 #[.pointer (some ⟨b, pre.length, none⟩), .int .u8 x.toNat] w fun e w' =>
      e = .returned (.tuple #[.string ⟨#[]⟩, .int .i64 0]) ∧ At.Is w' b T pre (c.enc ++ [.int .i64 state, .int .i64 Y, .int .i64 ((n : Int) + 1), .int .i64 pair, .int .i64 er]) post ∧ At.Only b w w' := by
  have HH := hex_is x d hd
  have k4 := h.cell 4 _ rfl
  have k5 := h.cell 5 _ rfl
  have k6 := h.cell 6 _ rfl
  have k7 := h.cell 7 _ rfl
  have g4 := h.free (pre.length + 4)
  have g5 := h.free (pre.length + 5)
  have g6 := h.free (pre.length + 6)
  have g7 := h.free (pre.length + 7)
  have hor := Int64.or4 v d (by omega) hd16
  rw [← hY] at hor
  have hY0 : 0 ≤ Y := by omega
  have hY1 : Y < 1048592 := by omega
  have I := Lib.hid ((h.set 5 (.int .i64 Y) (Nat.le_of_ble_eq_true rfl)).set 6 (.int .i64 ((n : Int) + 1)) (Nat.le_of_ble_eq_true rfl))
  clear hY hd h
  go_enter Tryd.func22, Tryd.ntmps22
  go_wp2_with (go_at_call 31; refine (HH.out _).mono ?_; rintro e w' ⟨rfl, rfl⟩)
  go_region
  go_wp2
  go_ret2
  exact ⟨rfl, I.out.drew, (((At.Only.refl b w).set _ _).set _ _).drew⟩

set_option maxRecDepth 100000 in
set_option maxHeartbeats 1000000 in
theorem digit_pair (c : Chk) (state v n pair er d : Nat) (Y : Int) (x : UInt8) (hd : hex x = (d : Int)) (hd16 : d < 16) (hv : v < 65536) (hn : 4 ≤ n + 1) (hn2 : n ≤ 4) (hY : Y = ((v * 16 + d : Nat) : Int)) (hp : 0 < pair) (hp2 : pair < 65536)
    (h : At.Is w b T pre (Rdr.enc ⟨c, state, v, n, pair, er⟩) post) :
    Calls Tryd.prog 22 #[.pointer (some ⟨b, pre.length, none⟩), .int .u8 x.toNat] w fun e w' =>
      e = .returned (.tuple #[.string ⟨(rune (65536 + ((pair : Int) - 55296) * 1024 + Y - 56320)).toArray⟩, .int .i64 0]) ∧ At.Is w' b T pre (c.enc ++ [.int .i64 0, .int .i64 Y, .int .i64 ((n : Int) + 1), .int .i64 0, .int .i64 er]) post ∧ At.Only b w w' := by
  have HH := hex_is x d hd
  have k4 := h.cell 4 _ rfl
  have k5 := h.cell 5 _ rfl
  have k6 := h.cell 6 _ rfl
  have k7 := h.cell 7 _ rfl
  have g4 := h.free (pre.length + 4)
  have g5 := h.free (pre.length + 5)
  have g6 := h.free (pre.length + 6)
  have g7 := h.free (pre.length + 7)
  have hor := Int64.or4 v d (by omega) hd16
  rw [← hY] at hor
  have hY0 : 0 ≤ Y := by omega
  have hY1 : Y < 1048592 := by omega
  have I := Lib.hid ((((h.set 5 (.int .i64 Y) (Nat.le_of_ble_eq_true rfl)).set 6 (.int .i64 ((n : Int) + 1)) (Nat.le_of_ble_eq_true rfl)).set 4 (.int .i64 0) (Nat.le_of_ble_eq_true rfl)).set 7 (.int .i64 0) (Nat.le_of_ble_eq_true rfl))
  clear hY hd h
  go_enter Tryd.func22, Tryd.ntmps22
  go_wp2_with (go_at_call 31; refine (HH.out _).mono ?_; rintro e w' ⟨rfl, rfl⟩)
  go_region
  go_wp2_with (go_at_call 34; refine (put_any _ (by omega) (by omega) _).mono ?_; rintro e w' ⟨rfl, rfl⟩)
  go_ret2
  exact ⟨rfl, I.out.drew, (((((At.Only.refl b w).set _ _).set _ _).set _ _).set _ _).drew⟩

set_option maxRecDepth 100000 in
set_option maxHeartbeats 1000000 in
theorem digit_low (c : Chk) (state v n er d : Nat) (Y : Int) (x : UInt8) (hd : hex x = (d : Int)) (hd16 : d < 16) (hv : v < 65536) (hn : 4 ≤ n + 1) (hn2 : n ≤ 4) (hY : Y = ((v * 16 + d : Nat) : Int)) (h5 : 56320 ≤ Y) (h6 : Y < 57344)
    (h : At.Is w b T pre (Rdr.enc ⟨c, state, v, n, 0, er⟩) post) :
    Calls Tryd.prog 22 #[.pointer (some ⟨b, pre.length, none⟩), .int .u8 x.toNat] w fun e w' =>
      e = .returned (.tuple #[.string ⟨#[]⟩, .int .i64 9]) ∧ At.Is w' b T pre (c.enc ++ [.int .i64 0, .int .i64 Y, .int .i64 ((n : Int) + 1), .int .i64 0, .int .i64 er]) post ∧ At.Only b w w' := by
  have HH := hex_is x d hd
  have k4 := h.cell 4 _ rfl
  have k5 := h.cell 5 _ rfl
  have k6 := h.cell 6 _ rfl
  have k7 := h.cell 7 _ rfl
  have g4 := h.free (pre.length + 4)
  have g5 := h.free (pre.length + 5)
  have g6 := h.free (pre.length + 6)
  have g7 := h.free (pre.length + 7)
  have hor := Int64.or4 v d (by omega) hd16
  rw [← hY] at hor
  have hY0 : 0 ≤ Y := by omega
  have hY1 : Y < 1048592 := by omega
  have I := Lib.hid (((h.set 5 (.int .i64 Y) (Nat.le_of_ble_eq_true rfl)).set 6 (.int .i64 ((n : Int) + 1)) (Nat.le_of_ble_eq_true rfl)).set 4 (.int .i64 0) (Nat.le_of_ble_eq_true rfl))
  clear hY hd h
  go_enter Tryd.func22, Tryd.ntmps22
  go_wp2_with (go_at_call 31; refine (HH.out _).mono ?_; rintro e w' ⟨rfl, rfl⟩)
  go_region
  go_wp2
  go_ret2
  exact ⟨rfl, I.out.drew, ((((At.Only.refl b w).set _ _).set _ _).set _ _).drew⟩

set_option maxRecDepth 100000 in
set_option maxHeartbeats 1000000 in
theorem digit_high (c : Chk) (state v n er d : Nat) (Y : Int) (x : UInt8) (hd : hex x = (d : Int)) (hd16 : d < 16) (hv : v < 65536) (hn : 4 ≤ n + 1) (hn2 : n ≤ 4) (hY : Y = ((v * 16 + d : Nat) : Int)) (h5 : 55296 ≤ Y) (h6 : Y < 56320)
    (h : At.Is w b T pre (Rdr.enc ⟨c, state, v, n, 0, er⟩) post) :
    Calls Tryd.prog 22 #[.pointer (some ⟨b, pre.length, none⟩), .int .u8 x.toNat] w fun e w' =>
      e = .returned (.tuple #[.string ⟨#[]⟩, .int .i64 0]) ∧ At.Is w' b T pre (c.enc ++ [.int .i64 0, .int .i64 Y, .int .i64 ((n : Int) + 1), .int .i64 Y, .int .i64 er]) post ∧ At.Only b w w' := by
  have HH := hex_is x d hd
  have k4 := h.cell 4 _ rfl
  have k5 := h.cell 5 _ rfl
  have k6 := h.cell 6 _ rfl
  have k7 := h.cell 7 _ rfl
  have g4 := h.free (pre.length + 4)
  have g5 := h.free (pre.length + 5)
  have g6 := h.free (pre.length + 6)
  have g7 := h.free (pre.length + 7)
  have hor := Int64.or4 v d (by omega) hd16
  rw [← hY] at hor
  have hY0 : 0 ≤ Y := by omega
  have hY1 : Y < 1048592 := by omega
  have I := Lib.hid ((((h.set 5 (.int .i64 Y) (Nat.le_of_ble_eq_true rfl)).set 6 (.int .i64 ((n : Int) + 1)) (Nat.le_of_ble_eq_true rfl)).set 4 (.int .i64 0) (Nat.le_of_ble_eq_true rfl)).set 7 (.int .i64 Y) (Nat.le_of_ble_eq_true rfl))
  clear hY hd h
  go_enter Tryd.func22, Tryd.ntmps22
  go_wp2_with (go_at_call 31; refine (HH.out _).mono ?_; rintro e w' ⟨rfl, rfl⟩)
  go_region
  go_wp2
  go_ret2
  exact ⟨rfl, I.out.drew, (((((At.Only.refl b w).set _ _).set _ _).set _ _).set _ _).drew⟩

set_option maxRecDepth 100000 in
set_option maxHeartbeats 1000000 in
theorem digit_rune1 (c : Chk) (state v n er d : Nat) (Y : Int) (x : UInt8) (hd : hex x = (d : Int)) (hd16 : d < 16) (hv : v < 65536) (hn : 4 ≤ n + 1) (hn2 : n ≤ 4) (hY : Y = ((v * 16 + d : Nat) : Int)) (h5 : Y < 55296)
    (h : At.Is w b T pre (Rdr.enc ⟨c, state, v, n, 0, er⟩) post) :
    Calls Tryd.prog 22 #[.pointer (some ⟨b, pre.length, none⟩), .int .u8 x.toNat] w fun e w' =>
      e = .returned (.tuple #[.string ⟨(rune Y).toArray⟩, .int .i64 0]) ∧ At.Is w' b T pre (c.enc ++ [.int .i64 0, .int .i64 Y, .int .i64 ((n : Int) + 1), .int .i64 0, .int .i64 er]) post ∧ At.Only b w w' := by
  have HH := hex_is x d hd
  have k4 := h.cell 4 _ rfl
  have k5 := h.cell 5 _ rfl
  have k6 := h.cell 6 _ rfl
  have k7 := h.cell 7 _ rfl
  have g4 := h.free (pre.length + 4)
  have g5 := h.free (pre.length + 5)
  have g6 := h.free (pre.length + 6)
  have g7 := h.free (pre.length + 7)
  have hor := Int64.or4 v d (by omega) hd16
  rw [← hY] at hor
  have hY0 : 0 ≤ Y := by omega
  have hY1 : Y < 1048592 := by omega
  have I := Lib.hid (((h.set 5 (.int .i64 Y) (Nat.le_of_ble_eq_true rfl)).set 6 (.int .i64 ((n : Int) + 1)) (Nat.le_of_ble_eq_true rfl)).set 4 (.int .i64 0) (Nat.le_of_ble_eq_true rfl))
  clear hY hd h
  go_enter Tryd.func22, Tryd.ntmps22
  go_wp2_with (go_at_call 31; refine (HH.out _).mono ?_; rintro e w' ⟨rfl, rfl⟩)
  go_region
  go_wp2_with (go_at_call 34; refine (put_any _ (by omega) (by omega) _).mono ?_; rintro e w' ⟨rfl, rfl⟩)
  go_ret2
  exact ⟨rfl, I.out.drew, ((((At.Only.refl b w).set _ _).set _ _).set _ _).drew⟩

set_option maxRecDepth 100000 in
set_option maxHeartbeats 1000000 in
theorem digit_rune2 (c : Chk) (state v n er d : Nat) (Y : Int) (x : UInt8) (hd : hex x = (d : Int)) (hd16 : d < 16) (hv : v < 65536) (hn : 4 ≤ n + 1) (hn2 : n ≤ 4) (hY : Y = ((v * 16 + d : Nat) : Int)) (h5 : 57344 ≤ Y)
    (h : At.Is w b T pre (Rdr.enc ⟨c, state, v, n, 0, er⟩) post) :
    Calls Tryd.prog 22 #[.pointer (some ⟨b, pre.length, none⟩), .int .u8 x.toNat] w fun e w' =>
      e = .returned (.tuple #[.string ⟨(rune Y).toArray⟩, .int .i64 0]) ∧ At.Is w' b T pre (c.enc ++ [.int .i64 0, .int .i64 Y, .int .i64 ((n : Int) + 1), .int .i64 0, .int .i64 er]) post ∧ At.Only b w w' := by
  have HH := hex_is x d hd
  have k4 := h.cell 4 _ rfl
  have k5 := h.cell 5 _ rfl
  have k6 := h.cell 6 _ rfl
  have k7 := h.cell 7 _ rfl
  have g4 := h.free (pre.length + 4)
  have g5 := h.free (pre.length + 5)
  have g6 := h.free (pre.length + 6)
  have g7 := h.free (pre.length + 7)
  have hor := Int64.or4 v d (by omega) hd16
  rw [← hY] at hor
  have hY0 : 0 ≤ Y := by omega
  have hY1 : Y < 1048592 := by omega
  have I := Lib.hid (((h.set 5 (.int .i64 Y) (Nat.le_of_ble_eq_true rfl)).set 6 (.int .i64 ((n : Int) + 1)) (Nat.le_of_ble_eq_true rfl)).set 4 (.int .i64 0) (Nat.le_of_ble_eq_true rfl))
  clear hY hd h
  go_enter Tryd.func22, Tryd.ntmps22
  go_wp2_with (go_at_call 31; refine (HH.out _).mono ?_; rintro e w' ⟨rfl, rfl⟩)
  go_region
  go_wp2_with (go_at_call 34; refine (put_any _ (by omega) (by omega) _).mono ?_; rintro e w' ⟨rfl, rfl⟩)
  go_ret2
  exact ⟨rfl, I.out.drew, ((((At.Only.refl b w).set _ _).set _ _).set _ _).drew⟩

set_option maxRecDepth 100000 in
set_option maxHeartbeats 1000000 in
theorem digit_none (r : Rdr) (x : UInt8) (hx : hex x < 0) :
    Calls Tryd.prog 22 #[.pointer (some ⟨b, pre.length, none⟩), .int .u8 x.toNat] w fun e w' =>
      e = .returned (.tuple #[.string ⟨(r.digit x).2.1.toArray⟩, .int .i64 (r.digit x).2.2]) ∧ w = w' := by
  have HP := Lib.hid (show r.digit x = (r, [], 2) by rw [Rdr.digit, if_pos hx])
  go_enter Tryd.func22, Tryd.ntmps22
  go_wp2_with (go_at_call 31; refine (hex_any x _).mono ?_; rintro e w' ⟨rfl, rfl⟩)
  go_ret2
  exact ⟨by rw [HP.out]; rfl, rfl⟩

theorem digit_any (r : Rdr) (x : UInt8) (hf : r.Fits) (h : At.Is w b T pre r.enc post) :
    Calls Tryd.prog 22 #[.pointer (some ⟨b, pre.length, none⟩), .int .u8 x.toNat] w fun e w' =>
      e = .returned (.tuple #[.string ⟨(r.digit x).2.1.toArray⟩, .int .i64 (r.digit x).2.2]) ∧ At.Is w' b T pre (r.digit x).1.enc post ∧ At.Only b w w' := by
  have hr := hex_range x
  have hv : r.r < 65536 := Nat.lt_of_lt_of_le hf.val (Nat.pow_le_pow_right (n := 16) (by decide) hf.n)
  have hn : r.n ≤ 4 := hf.n
  have hp : r.pair < 65536 := hf.pair
  obtain ⟨c, state, v, n, pair, er⟩ := r
  simp only at hv hn hp
  by_cases hx : hex x < 0
  · refine (digit_none w b pre ⟨c, state, v, n, pair, er⟩ x hx).mono ?_
    rintro e w' ⟨rfl, rfl⟩
    refine ⟨rfl, ?_, At.Only.refl b _⟩
    rw [Rdr.digit, if_pos hx]
    exact h
  · obtain ⟨d, hd⟩ := Int.eq_ofNat_of_zero_le (show 0 ≤ hex x by omega)
    have hd16 : d < 16 := by omega
    have sd : (hex x).toNat = d := by rw [hd]; rfl
    simp only [Rdr.digit, if_neg hx, sd]
    by_cases h4 : n + 1 < 4
    · rw [if_pos h4]
      exact digit_more w b T pre post c state v n pair er d ((v * 16 + d : Nat) : Int) x hd hd16 hv h4 rfl h
    · rw [if_neg h4]
      by_cases hpp : 0 < pair
      · rw [if_pos hpp]
        exact digit_pair w b T pre post c state v n pair er d ((v * 16 + d : Nat) : Int) x hd hd16 hv (by omega) hn rfl hpp hp h
      · rw [if_neg hpp]
        obtain rfl : pair = 0 := by omega
        by_cases h5 : 56320 ≤ v * 16 + d ∧ v * 16 + d < 57344
        · rw [if_pos h5]
          exact digit_low w b T pre post c state v n er d ((v * 16 + d : Nat) : Int) x hd hd16 hv (by omega) hn rfl (by omega) (by omega) h
        · rw [if_neg h5]
          by_cases h6 : 55296 ≤ v * 16 + d ∧ v * 16 + d < 56320
          · rw [if_pos h6]
            exact digit_high w b T pre post c state v n er d ((v * 16 + d : Nat) : Int) x hd hd16 hv (by omega) hn rfl (by omega) (by omega) h
          · rw [if_neg h6]
            by_cases h7 : v * 16 + d < 55296
            · exact digit_rune1 w b T pre post c state v n er d ((v * 16 + d : Nat) : Int) x hd hd16 hv (by omega) hn rfl (by omega) h
            · exact digit_rune2 w b T pre post c state v n er d ((v * 16 + d : Nat) : Int) x hd hd16 hv (by omega) hn rfl (by omega) h
end
end Esc
end Go.Proofs.YtnpbleaikdpjiaaDoor
