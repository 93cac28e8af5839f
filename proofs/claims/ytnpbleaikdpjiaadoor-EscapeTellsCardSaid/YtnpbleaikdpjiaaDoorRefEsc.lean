/- truchmanref1: hex, lead, four, low. -/
import Derived.Test.YtnpbleaikdpjiaaDoorEscIn
import Derived.Test.YtnpbleaikdpjiaaDoorMem
import Derived.Test.YtnpbleaikdpjiaaDoorInt
import Derived.OpenShut
namespace Go.Proofs.YtnpbleaikdpjiaaDoor
open Go.RowKit
namespace Ref

def rhex (b : UInt8) : Int :=
  if 48 ≤ b.toNat ∧ b.toNat ≤ 57 then (b.toNat : Int) - 48
  else if 97 ≤ b.toNat ∧ b.toNat ≤ 102 then (b.toNat : Int) - 97 + 10
  else if 65 ≤ b.toNat ∧ b.toNat ≤ 70 then (b.toNat : Int) - 65 + 10
  else -1

theorem rhex_all : ∀ n : Fin 256, rhex (UInt8.ofNat n.val) = Esc.hex (UInt8.ofNat n.val) := by decide +kernel
theorem rhex_eq (b : UInt8) : rhex b = Esc.hex b := by
  have h := rhex_all ⟨b.toNat, b.toNat_lt⟩
  have e : UInt8.ofNat b.toNat = b := by simp
  rw [e] at h
  exact h

theorem ret_i64 {a b : Int} (h : a = b) : Ending.returned (.int .i64 a) = .returned (.int .i64 b) := by rw [h]

set_option maxHeartbeats 1000000 in
theorem hex_any (x : UInt8) (w : World) : Calls Tryd.prog 35 #[.int .u8 x.toNat] w fun e w' => e = .returned (.int .i64 (Esc.hex x)) ∧ w = w' := by
  rw [← rhex_eq x]
  have hx := x.toNat_lt
  by_cases g1 : 48 ≤ x.toNat ∧ x.toNat ≤ 57
  · have HX := Lib.hid (show rhex x = (x.toNat : Int) - 48 by unfold rhex; rw [if_pos g1])
    obtain ⟨ga, gb⟩ := g1
    go_enter Tryd.func35, Tryd.ntmps35
    go_wp2
    go_ret
    exact ⟨ret_i64 (by rw [HX.out]), rfl⟩
  by_cases g2 : 97 ≤ x.toNat ∧ x.toNat ≤ 102
  · have HX := Lib.hid (show rhex x = (x.toNat : Int) - 97 + 10 by unfold rhex; rw [if_neg g1, if_pos g2])
    obtain ⟨ga, gb⟩ := g2
    clear g1
    go_enter Tryd.func35, Tryd.ntmps35
    go_wp2
    go_ret
    exact ⟨ret_i64 (by rw [HX.out]), rfl⟩
  by_cases g3 : 65 ≤ x.toNat ∧ x.toNat ≤ 70
  · have HX := Lib.hid (show rhex x = (x.toNat : Int) - 65 + 10 by unfold rhex; rw [if_neg g1, if_neg g2, if_pos g3])
    obtain ⟨ga, gb⟩ := g3
    clear g1 g2
    go_enter Tryd.func35, Tryd.ntmps35
    go_wp2
    go_ret
    exact ⟨ret_i64 (by rw [HX.out]), rfl⟩
  · have HX := Lib.hid (show rhex x = -1 by unfold rhex; rw [if_neg g1, if_neg g2, if_neg g3])
    rcases (show x.toNat < 48 ∨ (57 < x.toNat ∧ x.toNat < 65) ∨ (70 < x.toNat ∧ x.toNat < 97) ∨ 102 < x.toNat by omega) with h | ⟨h, h'⟩ | ⟨h, h'⟩ | h
    all_goals clear g1 g2 g3
    all_goals go_enter Tryd.func35, Tryd.ntmps35
    all_goals go_wp2
    all_goals go_ret
    all_goals exact ⟨ret_i64 (by rw [HX.out]), rfl⟩

def leadOut (o : Nat × UInt8 × UInt8) : Ending := .returned (.tuple #[.int .i64 o.1, .int .u8 o.2.1.toNat, .int .u8 o.2.2.toNat])

theorem lead_out (x : UInt8) (a : Nat) (b c : UInt8) (h : Esc.lead x = (a, b, c)) : leadOut (Esc.lead x) = .returned (.tuple #[.int .i64 a, .int .u8 b.toNat, .int .u8 c.toNat]) := by rw [h]; rfl

theorem ret3 {a b c a' b' c' : Int} (h1 : a = a') (h2 : b = b') (h3 : c = c') : Ending.returned (.tuple #[.int .i64 a, .int .u8 b, .int .u8 c]) = .returned (.tuple #[.int .i64 a', .int .u8 b', .int .u8 c']) := by rw [h1, h2, h3]

set_option maxRecDepth 100000 in
set_option maxHeartbeats 2000000 in
theorem lead_any (x : UInt8) (w : World) : Calls Tryd.prog 26 #[.int .u8 x.toNat] w fun e w' => e = leadOut (Esc.lead x) ∧ w = w' := by
  have hx := x.toNat_lt
  by_cases g0 : x.toNat < 128
  · have HX := Lib.hid (lead_out x 1 0 0 (by unfold Esc.lead; rw [if_pos g0]))
    have t224 : ((x.toNat : Int) == 224) = false := beq_eq_false_iff_ne.mpr (by omega)
    have t237 : ((x.toNat : Int) == 237) = false := beq_eq_false_iff_ne.mpr (by omega)
    have t240 : ((x.toNat : Int) == 240) = false := beq_eq_false_iff_ne.mpr (by omega)
    have t244 : ((x.toNat : Int) == 244) = false := beq_eq_false_iff_ne.mpr (by omega)
    have ha := g0
    all_goals clear g0
    all_goals go_enter Tryd.func26, Tryd.ntmps26
    all_goals go_wp2
    all_goals go_ret3
    all_goals (rw [HX.out]; exact ⟨ret3 rfl (by decide) (by decide), rfl⟩)
  by_cases g1 : 194 ≤ x.toNat ∧ x.toNat ≤ 223
  · have HX := Lib.hid (lead_out x 2 128 191 (by unfold Esc.lead; rw [if_neg g0, if_pos g1]))
    have t224 : ((x.toNat : Int) == 224) = false := beq_eq_false_iff_ne.mpr (by omega)
    have t237 : ((x.toNat : Int) == 237) = false := beq_eq_false_iff_ne.mpr (by omega)
    have t240 : ((x.toNat : Int) == 240) = false := beq_eq_false_iff_ne.mpr (by omega)
    have t244 : ((x.toNat : Int) == 244) = false := beq_eq_false_iff_ne.mpr (by omega)
    obtain ⟨ha, hb⟩ := g1
    all_goals clear g0
    all_goals go_enter Tryd.func26, Tryd.ntmps26
    all_goals go_wp2
    all_goals go_ret3
    all_goals (rw [HX.out]; exact ⟨ret3 rfl (by decide) (by decide), rfl⟩)
  by_cases g2 : x.toNat = 224
  · have HX := Lib.hid (lead_out x 3 160 191 (by unfold Esc.lead; rw [if_neg g0, if_neg g1, if_pos g2]))
    have t224 : ((x.toNat : Int) == 224) = true := beq_iff_eq.mpr (by omega)
    have t237 : ((x.toNat : Int) == 237) = false := beq_eq_false_iff_ne.mpr (by omega)
    have t240 : ((x.toNat : Int) == 240) = false := beq_eq_false_iff_ne.mpr (by omega)
    have t244 : ((x.toNat : Int) == 244) = false := beq_eq_false_iff_ne.mpr (by omega)
    have ha : 224 ≤ x.toNat := by omega
    have hb : x.toNat ≤ 224 := by omega
    all_goals clear g0 g1 g2
    all_goals go_enter Tryd.func26, Tryd.ntmps26
    all_goals go_wp2
    all_goals go_ret3
    all_goals (rw [HX.out]; exact ⟨ret3 rfl (by decide) (by decide), rfl⟩)
  by_cases g3 : x.toNat = 237
  · have HX := Lib.hid (lead_out x 3 128 159 (by unfold Esc.lead; rw [if_neg g0, if_neg g1, if_neg g2, if_pos g3]))
    have t224 : ((x.toNat : Int) == 224) = false := beq_eq_false_iff_ne.mpr (by omega)
    have t237 : ((x.toNat : Int) == 237) = true := beq_iff_eq.mpr (by omega)
    have t240 : ((x.toNat : Int) == 240) = false := beq_eq_false_iff_ne.mpr (by omega)
    have t244 : ((x.toNat : Int) == 244) = false := beq_eq_false_iff_ne.mpr (by omega)
    have ha : 237 ≤ x.toNat := by omega
    have hb : x.toNat ≤ 237 := by omega
    all_goals clear g0 g1 g2 g3
    all_goals go_enter Tryd.func26, Tryd.ntmps26
    all_goals go_wp2
    all_goals go_ret3
    all_goals (rw [HX.out]; exact ⟨ret3 rfl (by decide) (by decide), rfl⟩)
  by_cases g4 : 225 ≤ x.toNat ∧ x.toNat ≤ 239
  · have HX := Lib.hid (lead_out x 3 128 191 (by unfold Esc.lead; rw [if_neg g0, if_neg g1, if_neg g2, if_neg g3, if_pos g4]))
    have t224 : ((x.toNat : Int) == 224) = false := beq_eq_false_iff_ne.mpr (by omega)
    have t237 : ((x.toNat : Int) == 237) = false := beq_eq_false_iff_ne.mpr (by omega)
    have t240 : ((x.toNat : Int) == 240) = false := beq_eq_false_iff_ne.mpr (by omega)
    have t244 : ((x.toNat : Int) == 244) = false := beq_eq_false_iff_ne.mpr (by omega)
    obtain ⟨ha, hb⟩ := g4
    all_goals clear g0 g1 g2 g3
    all_goals go_enter Tryd.func26, Tryd.ntmps26
    all_goals go_wp2
    all_goals go_ret3
    all_goals (rw [HX.out]; exact ⟨ret3 rfl (by decide) (by decide), rfl⟩)
  by_cases g5 : x.toNat = 240
  · have HX := Lib.hid (lead_out x 4 144 191 (by unfold Esc.lead; rw [if_neg g0, if_neg g1, if_neg g2, if_neg g3, if_neg g4, if_pos g5]))
    have t224 : ((x.toNat : Int) == 224) = false := beq_eq_false_iff_ne.mpr (by omega)
    have t237 : ((x.toNat : Int) == 237) = false := beq_eq_false_iff_ne.mpr (by omega)
    have t240 : ((x.toNat : Int) == 240) = true := beq_iff_eq.mpr (by omega)
    have t244 : ((x.toNat : Int) == 244) = false := beq_eq_false_iff_ne.mpr (by omega)
    have ha : 240 ≤ x.toNat := by omega
    have hb : x.toNat ≤ 240 := by omega
    all_goals clear g0 g1 g2 g3 g4 g5
    all_goals go_enter Tryd.func26, Tryd.ntmps26
    all_goals go_wp2
    all_goals go_ret3
    all_goals (rw [HX.out]; exact ⟨ret3 rfl (by decide) (by decide), rfl⟩)
  by_cases g6 : 241 ≤ x.toNat ∧ x.toNat ≤ 243
  · have HX := Lib.hid (lead_out x 4 128 191 (by unfold Esc.lead; rw [if_neg g0, if_neg g1, if_neg g2, if_neg g3, if_neg g4, if_neg g5, if_pos g6]))
    have t224 : ((x.toNat : Int) == 224) = false := beq_eq_false_iff_ne.mpr (by omega)
    have t237 : ((x.toNat : Int) == 237) = false := beq_eq_false_iff_ne.mpr (by omega)
    have t240 : ((x.toNat : Int) == 240) = false := beq_eq_false_iff_ne.mpr (by omega)
    have t244 : ((x.toNat : Int) == 244) = false := beq_eq_false_iff_ne.mpr (by omega)
    obtain ⟨ha, hb⟩ := g6
    all_goals clear g0 g1 g2 g3 g4 g5
    all_goals go_enter Tryd.func26, Tryd.ntmps26
    all_goals go_wp2
    all_goals go_ret3
    all_goals (rw [HX.out]; exact ⟨ret3 rfl (by decide) (by decide), rfl⟩)
  by_cases g7 : x.toNat = 244
  · have HX := Lib.hid (lead_out x 4 128 143 (by unfold Esc.lead; rw [if_neg g0, if_neg g1, if_neg g2, if_neg g3, if_neg g4, if_neg g5, if_neg g6, if_pos g7]))
    have t224 : ((x.toNat : Int) == 224) = false := beq_eq_false_iff_ne.mpr (by omega)
    have t237 : ((x.toNat : Int) == 237) = false := beq_eq_false_iff_ne.mpr (by omega)
    have t240 : ((x.toNat : Int) == 240) = false := beq_eq_false_iff_ne.mpr (by omega)
    have t244 : ((x.toNat : Int) == 244) = true := beq_iff_eq.mpr (by omega)
    have ha : 244 ≤ x.toNat := by omega
    have hb : x.toNat ≤ 244 := by omega
    all_goals clear g0 g1 g2 g3 g4 g5 g6 g7
    all_goals go_enter Tryd.func26, Tryd.ntmps26
    all_goals go_wp2
    all_goals go_ret3
    all_goals (rw [HX.out]; exact ⟨ret3 rfl (by decide) (by decide), rfl⟩)
  · have HX := Lib.hid (lead_out x 0 0 0 (by unfold Esc.lead; rw [if_neg g0, if_neg g1, if_neg g2, if_neg g3, if_neg g4, if_neg g5, if_neg g6, if_neg g7]))
    have t224 : ((x.toNat : Int) == 224) = false := beq_eq_false_iff_ne.mpr (by omega)
    have t237 : ((x.toNat : Int) == 237) = false := beq_eq_false_iff_ne.mpr (by omega)
    have t240 : ((x.toNat : Int) == 240) = false := beq_eq_false_iff_ne.mpr (by omega)
    have t244 : ((x.toNat : Int) == 244) = false := beq_eq_false_iff_ne.mpr (by omega)
    rcases (show (128 ≤ x.toNat ∧ x.toNat < 194) ∨ 244 < x.toNat by omega) with ⟨h, h'⟩ | h
    all_goals clear g0 g1 g2 g3 g4 g5 g6 g7
    all_goals go_enter Tryd.func26, Tryd.ntmps26
    all_goals go_wp2
    all_goals go_ret3
    all_goals (rw [HX.out]; exact ⟨ret3 rfl (by decide) (by decide), rfl⟩)

def fourOut (o : Nat × Nat × Nat) : Ending := .returned (.tuple #[.int .i64 o.1, .int .i64 o.2.1, .int .i64 o.2.2])

set_option maxRecDepth 100000 in
set_option maxHeartbeats 2000000 in
theorem four_any (s : ByteArray) (w : World) (hs : s.size ≤ 1000) : Calls Tryd.prog 24 #[.string s] w fun e w' => e = fourOut (Esc.fourGo 4 s.data.toList 0 0) ∧ w = w' := by
  go_enter Tryd.func24, Tryd.ntmps24
  go_wp2
  go_loop [5, 6, 7] (fun v i _ => ∃ (k x : Nat), i = .int .i64 k ∧ v = .int .i64 x ∧ k ≤ 4 ∧ k ≤ s.size ∧ x < 16 ^ k ∧ Esc.fourGo (4 - k) (s.data.toList.drop k) k x = Esc.fourGo 4 s.data.toList 0 0) (fun _ i _ => 4 - (intOf i).toNat)
  case atStart => exact ⟨0, 0, rfl, rfl, by omega, by omega, by decide, rfl⟩
  case round =>
    obtain ⟨k, x, rfl, rfl, hk, hks, hx, heq⟩ := hrel
    have HE := Lib.hid heq
    have hx4 : x < 65536 := Nat.lt_of_lt_of_le hx (Nat.pow_le_pow_right (n := 16) (by decide) hk)
    have HX := Lib.hid hx
    clear heq hx
    by_cases h4 : k < 4
    · by_cases hlt : k < s.size
      · have HD := Lib.hid (Mem.drop_one s k hlt)
        obtain ⟨c, hc⟩ : ∃ c, s[k]'hlt = c := ⟨_, rfl⟩
        have hr := Esc.hex_lt c
        obtain ⟨d, hd⟩ : ∃ d, d = Esc.hex c := ⟨_, rfl⟩
        have HH := Lib.hid (fun W => hex_any c W)
        rw [← hd] at HH
        have HC := Lib.hid hc
        have HDd := Lib.hid hd
        by_cases hneg : d < 0
        · clear hd hr
          go_wp2_with (fail)
          refine (HH.out _).mono ?_
          rintro e W1 ⟨rfl, rfl⟩
          go_wp2
          go_ret3
          refine ⟨?_, rfl⟩
          rw [← HE.out, HD.out, HC.out, show 4 - k = (4 - (k + 1)) + 1 by omega]
          unfold Esc.fourGo
          rw [if_pos (by rw [← HDd.out]; exact hneg)]
          rfl
        · have hd15 : d < 16 := by omega
          clear hd hr
          go_wp2_with (fail)
          refine (HH.out _).mono ?_
          rintro e W1 ⟨rfl, rfl⟩
          go_wp2
          go_round
          case rel =>
            refine ⟨k + 1, x * 16 + d.toNat, by go_num, ?_, by omega, by omega, by rw [Nat.pow_succ]; have := HX.out; omega, ?_⟩
            · rw [show ((x * 16 + d.toNat : Nat) : Int) = (x : Int) * 16 + d by omega]
            · rw [← HE.out, HD.out, HC.out, show 4 - k = (4 - (k + 1)) + 1 by omega]
              conv => rhs; unfold Esc.fourGo
              rw [if_neg (by rw [← HDd.out]; omega), ← HDd.out]
          case measure => simp [intOf]; omega
      · have HD := Lib.hid (Mem.drop_none s k (by omega))
        go_wp2
        go_ret3
        refine ⟨?_, rfl⟩
        rw [← HE.out, HD.out, show 4 - k = (4 - (k + 1)) + 1 by omega]
        rfl
    · obtain rfl : k = 4 := by omega
      go_wp2
      go_ret3
      refine ⟨?_, rfl⟩
      rw [← HE.out]
      rfl

def lowOut (o : Nat × Bool) : Ending := .returned (.tuple #[.int .i64 o.1, .bool o.2])
end Ref
end Go.Proofs.YtnpbleaikdpjiaaDoor
