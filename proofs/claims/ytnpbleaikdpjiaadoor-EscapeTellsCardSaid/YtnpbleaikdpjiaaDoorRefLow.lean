/- truchmanref1.low. -/
import Derived.Test.YtnpbleaikdpjiaaDoorRefEsc
namespace Go.Proofs.YtnpbleaikdpjiaaDoor
open Go.RowKit
namespace Ref

theorem low_more (f : Nat) (c : UInt8) (l : List UInt8) (k : Nat) (h : Esc.lowOk k c = true) : Esc.lowGo (f + 1) (c :: l) k = Esc.lowGo f l (k + 1) := by
  conv => lhs; unfold Esc.lowGo
  rw [if_pos h]
theorem low_stop (f : Nat) (c : UInt8) (l : List UInt8) (k : Nat) (h : Esc.lowOk k c = false) : Esc.lowGo (f + 1) (c :: l) k = (k, false) := by
  unfold Esc.lowGo
  rw [if_neg (by rw [h]; decide)]

set_option maxRecDepth 100000 in
set_option maxHeartbeats 4000000 in
theorem low_any (s : ByteArray) (w : World) (hs : s.size ≤ 1000) : Calls Tryd.prog 25 #[.string s] w fun e w' => e = lowOut (Esc.lowGo 6 s.data.toList 0) ∧ w = w' := by
  go_enter Tryd.func25, Tryd.ntmps25
  go_wp2
  go_loop [4, 5] (fun i _ => ∃ k : Nat, i = .int .i64 k ∧ k ≤ 6 ∧ k ≤ s.size ∧ Esc.lowGo (6 - k) (s.data.toList.drop k) k = Esc.lowGo 6 s.data.toList 0) (fun i _ => 6 - (intOf i).toNat)
  case atStart => exact ⟨0, rfl, by omega, by omega, rfl⟩
  case round =>
    obtain ⟨k, rfl, hk, hks, heq⟩ := hrel
    have HE := Lib.hid heq
    clear heq
    by_cases hlt : k < s.size
    · rcases (show k = 0 ∨ k = 1 ∨ k = 2 ∨ k = 3 ∨ k = 4 ∨ k = 5 ∨ k = 6 by omega) with rfl | rfl | rfl | rfl | rfl | rfl | rfl
      · have HD := Lib.hid (Mem.drop_one s 0 hlt)
        have hne : ¬ s = ByteArray.empty := by rintro rfl; exact absurd hlt (by decide)
        obtain ⟨c, hc⟩ : ∃ c, s[0]'hlt = c := ⟨_, rfl⟩
        rw [hc] at HD
        have hb := Int64.byte_eq c 92 92 rfl
        cases hcc : (c == (92 : UInt8)) with
        | true =>
          rw [hcc] at hb
          have HC := Lib.hid (show Esc.lowOk 0 c = true by unfold Esc.lowOk; simp [beq_iff_eq.1 hcc])
          clear hcc
          go_wp2
          go_round
          case rel => exact ⟨0 + 1, by go_num, by omega, by omega, by rw [← HE.out, HD.out]; exact (low_more _ _ _ _ HC.out).symm⟩
          case measure => simp [intOf]
        | false =>
          rw [hcc] at hb
          have HC := Lib.hid (show Esc.lowOk 0 c = false by unfold Esc.lowOk; simpa using hcc)
          clear hcc
          go_wp2
          go_ret2
          refine ⟨?_, rfl⟩
          rw [← HE.out, HD.out, low_stop _ _ _ _ HC.out]
          rfl
      · have HD := Lib.hid (Mem.drop_one s 1 hlt)
        obtain ⟨c, hc⟩ : ∃ c, s[1]'hlt = c := ⟨_, rfl⟩
        rw [hc] at HD
        have hb := Int64.byte_eq c 117 117 rfl
        cases hcc : (c == (117 : UInt8)) with
        | true =>
          rw [hcc] at hb
          have HC := Lib.hid (show Esc.lowOk 1 c = true by unfold Esc.lowOk; simp [beq_iff_eq.1 hcc])
          clear hcc
          go_wp2
          go_round
          case rel => exact ⟨1 + 1, by go_num, by omega, by omega, by rw [← HE.out, HD.out]; exact (low_more _ _ _ _ HC.out).symm⟩
          case measure => simp [intOf]
        | false =>
          rw [hcc] at hb
          have HC := Lib.hid (show Esc.lowOk 1 c = false by unfold Esc.lowOk; simpa using hcc)
          clear hcc
          go_wp2
          go_ret2
          refine ⟨?_, rfl⟩
          rw [← HE.out, HD.out, low_stop _ _ _ _ HC.out]
          rfl
      · have HD := Lib.hid (Mem.drop_one s 2 hlt)
        obtain ⟨c, hc⟩ : ∃ c, s[2]'hlt = c := ⟨_, rfl⟩
        rw [hc] at HD
        have hb := Int64.byte_eq c 100 100 rfl
        have hb2 := Int64.byte_eq c 68 68 rfl
        cases hcc : (c == (100 : UInt8)) with
        | true =>
          rw [hcc] at hb
          have HC := Lib.hid (show Esc.lowOk 2 c = true by unfold Esc.lowOk; simp [beq_iff_eq.1 hcc])
          clear hcc hb2
          go_wp2
          go_round
          case rel => exact ⟨2 + 1, by go_num, by omega, by omega, by rw [← HE.out, HD.out]; exact (low_more _ _ _ _ HC.out).symm⟩
          case measure => simp [intOf]
        | false =>
          rw [hcc] at hb
          cases hcd : (c == (68 : UInt8)) with
          | true =>
            rw [hcd] at hb2
            have HC := Lib.hid (show Esc.lowOk 2 c = true by unfold Esc.lowOk; simp [beq_iff_eq.1 hcd])
            clear hcc hcd
            go_wp2
            go_round
            case rel => exact ⟨2 + 1, by go_num, by omega, by omega, by rw [← HE.out, HD.out]; exact (low_more _ _ _ _ HC.out).symm⟩
            case measure => simp [intOf]
          | false =>
            rw [hcd] at hb2
            have HC := Lib.hid (show Esc.lowOk 2 c = false by unfold Esc.lowOk; simp [hcc, hcd])
            clear hcc hcd
            go_wp2
            go_ret2
            refine ⟨?_, rfl⟩
            rw [← HE.out, HD.out, low_stop _ _ _ _ HC.out]
            rfl
      · have HD := Lib.hid (Mem.drop_one s 3 hlt)
        obtain ⟨c, hc⟩ : ∃ c, s[3]'hlt = c := ⟨_, rfl⟩
        rw [hc] at HD
        obtain ⟨d, hd⟩ : ∃ d, d = Esc.hex c := ⟨_, rfl⟩
        have HH := Lib.hid (fun W => hex_any c W)
        rw [← hd] at HH
        by_cases hdl : 12 ≤ d
        · have HC := Lib.hid (show Esc.lowOk 3 c = true by unfold Esc.lowOk; simp [← hd, hdl])
          clear hd
          go_wp2_with (fail)
          refine (HH.out _).mono ?_
          rintro e W1 ⟨rfl, rfl⟩
          go_wp2
          go_round
          case rel => exact ⟨3 + 1, by go_num, by omega, by omega, by rw [← HE.out, HD.out]; exact (low_more _ _ _ _ HC.out).symm⟩
          case measure => simp [intOf]
        · have HC := Lib.hid (show Esc.lowOk 3 c = false by unfold Esc.lowOk; simp [← hd]; omega)
          have hdb : decide (12 ≤ d) = false := decide_eq_false hdl
          clear hd
          go_wp2_with (fail)
          refine (HH.out _).mono ?_
          rintro e W1 ⟨rfl, rfl⟩
          go_wp2
          go_ret2
          refine ⟨?_, rfl⟩
          rw [← HE.out, HD.out, low_stop _ _ _ _ HC.out]
          rfl
      · have HD := Lib.hid (Mem.drop_one s 4 hlt)
        obtain ⟨c, hc⟩ : ∃ c, s[4]'hlt = c := ⟨_, rfl⟩
        rw [hc] at HD
        obtain ⟨d, hd⟩ : ∃ d, d = Esc.hex c := ⟨_, rfl⟩
        have HH := Lib.hid (fun W => hex_any c W)
        rw [← hd] at HH
        by_cases hdl : 0 ≤ d
        · have HC := Lib.hid (show Esc.lowOk 4 c = true by unfold Esc.lowOk; simp [← hd, hdl])
          clear hd
          go_wp2_with (fail)
          refine (HH.out _).mono ?_
          rintro e W1 ⟨rfl, rfl⟩
          go_wp2
          go_round
          case rel => exact ⟨4 + 1, by go_num, by omega, by omega, by rw [← HE.out, HD.out]; exact (low_more _ _ _ _ HC.out).symm⟩
          case measure => simp [intOf]
        · have HC := Lib.hid (show Esc.lowOk 4 c = false by unfold Esc.lowOk; simp [← hd]; omega)
          have hdb : decide (0 ≤ d) = false := decide_eq_false hdl
          clear hd
          go_wp2_with (fail)
          refine (HH.out _).mono ?_
          rintro e W1 ⟨rfl, rfl⟩
          go_wp2
          go_ret2
          refine ⟨?_, rfl⟩
          rw [← HE.out, HD.out, low_stop _ _ _ _ HC.out]
          rfl
      · have HD := Lib.hid (Mem.drop_one s 5 hlt)
        obtain ⟨c, hc⟩ : ∃ c, s[5]'hlt = c := ⟨_, rfl⟩
        rw [hc] at HD
        obtain ⟨d, hd⟩ : ∃ d, d = Esc.hex c := ⟨_, rfl⟩
        have HH := Lib.hid (fun W => hex_any c W)
        rw [← hd] at HH
        by_cases hdl : 0 ≤ d
        · have HC := Lib.hid (show Esc.lowOk 5 c = true by unfold Esc.lowOk; simp [← hd, hdl])
          clear hd
          go_wp2_with (fail)
          refine (HH.out _).mono ?_
          rintro e W1 ⟨rfl, rfl⟩
          go_wp2
          go_round
          case rel => exact ⟨5 + 1, by go_num, by omega, by omega, by rw [← HE.out, HD.out]; exact (low_more _ _ _ _ HC.out).symm⟩
          case measure => simp [intOf]
        · have HC := Lib.hid (show Esc.lowOk 5 c = false by unfold Esc.lowOk; simp [← hd]; omega)
          have hdb : decide (0 ≤ d) = false := decide_eq_false hdl
          clear hd
          go_wp2_with (fail)
          refine (HH.out _).mono ?_
          rintro e W1 ⟨rfl, rfl⟩
          go_wp2
          go_ret2
          refine ⟨?_, rfl⟩
          rw [← HE.out, HD.out, low_stop _ _ _ _ HC.out]
          rfl
      · go_wp2
        go_ret2
        refine ⟨?_, rfl⟩
        rw [← HE.out]
        rfl
    · have HD := Lib.hid (Mem.drop_none s k (by omega))
      by_cases h6 : k < 6
      · go_wp2
        go_ret2
        refine ⟨?_, rfl⟩
        rw [← HE.out, HD.out, show 6 - k = (6 - (k + 1)) + 1 by omega]
        rfl
      · obtain rfl : k = 6 := by omega
        go_wp2
        go_ret2
        refine ⟨?_, rfl⟩
        rw [← HE.out]
        rfl
end Ref
end Go.Proofs.YtnpbleaikdpjiaaDoor
