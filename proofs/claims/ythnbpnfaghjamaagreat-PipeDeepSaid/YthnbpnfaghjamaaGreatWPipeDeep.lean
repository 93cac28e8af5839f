/- PipeDeep: the walk. -/
import Derived.Test.YthnbpnfaghjamaaGreatM42
import Derived.Handy
namespace Go.Proofs.YthnbpnfaghjamaaGreat.pipeDeep
open Go.RowKit Pip

set_option maxRecDepth 100000 in
set_option maxHeartbeats 8000000 in
theorem walk (a0 a1 a2 a3 : Int) (_w0 : (Lit.int .i64 a0).wf = true) (_w1 : (Lit.int .i64 a1).wf = true) (_w2 : (Lit.int .i64 a2).wf = true) (_w3 : (Lit.int .i64 a3).wf = true) (w : World) :
    Calls Tryz.prog 5 #[.int .i64 a0, .int .i64 a1, .int .i64 a2, .int .i64 a3] w fun e w' => e = .returned (.bool true) ∧ Below w.heap.size w w' := by
  have HA := Lib.hid (fun u => alive18_any u)
  have BT := Lib.hid (fun (u v : World) (b : Below w.heap.size w u) (b2 : Below u.heap.size u v) => (b.trans (b2.mono b.size) : Below w.heap.size w v))
  have B0 := Lib.hid (fun o u (b : Below w.heap.size w u) => b.alloc b.size o)
  have B1 := Lib.hid (Below.refl w.heap.size w)
  have hk : a0 < 1 ∨ (1 ≤ a0 ∧ 3 < a0) ∨ ((1 ≤ a0 ∧ a0 ≤ 3) ∧ a1 < 1) ∨ ((1 ≤ a0 ∧ a0 ≤ 3) ∧ 1 ≤ a1 ∧ 3 < a1) ∨ ((1 ≤ a0 ∧ a0 ≤ 3) ∧ (1 ≤ a1 ∧ a1 ≤ 3) ∧ a2 < 1) ∨ ((1 ≤ a0 ∧ a0 ≤ 3) ∧ (1 ≤ a1 ∧ a1 ≤ 3) ∧ 1 ≤ a2 ∧ 20 < a2) ∨
      ((1 ≤ a0 ∧ a0 ≤ 3) ∧ (1 ≤ a1 ∧ a1 ≤ 3) ∧ (1 ≤ a2 ∧ a2 ≤ 20) ∧ a3 < 1) ∨ ((1 ≤ a0 ∧ a0 ≤ 3) ∧ (1 ≤ a1 ∧ a1 ≤ 3) ∧ (1 ≤ a2 ∧ a2 ≤ 20) ∧ 1 ≤ a3 ∧ 16 < a3) ∨
      ((1 ≤ a0 ∧ a0 ≤ 3) ∧ (1 ≤ a1 ∧ a1 ≤ 3) ∧ (1 ≤ a2 ∧ a2 ≤ 20) ∧ (1 ≤ a3 ∧ a3 ≤ 16)) := by omega
  have quick : (a0 < 1 ∨ 3 < a0 ∨ a1 < 1 ∨ 3 < a1 ∨ a2 < 1 ∨ 20 < a2 ∨ a3 < 1 ∨ 16 < a3) → Calls Tryz.prog 5 #[.int .i64 a0, .int .i64 a1, .int .i64 a2, .int .i64 a3] w fun e w' => e = .returned (.bool true) ∧ Below w.heap.size w w' := by
    intro hq
    have hk' : a0 < 1 ∨ (1 ≤ a0 ∧ 3 < a0) ∨ ((1 ≤ a0 ∧ a0 ≤ 3) ∧ a1 < 1) ∨ ((1 ≤ a0 ∧ a0 ≤ 3) ∧ 1 ≤ a1 ∧ 3 < a1) ∨ ((1 ≤ a0 ∧ a0 ≤ 3) ∧ (1 ≤ a1 ∧ a1 ≤ 3) ∧ a2 < 1) ∨ ((1 ≤ a0 ∧ a0 ≤ 3) ∧ (1 ≤ a1 ∧ a1 ≤ 3) ∧ 1 ≤ a2 ∧ 20 < a2) ∨
      ((1 ≤ a0 ∧ a0 ≤ 3) ∧ (1 ≤ a1 ∧ a1 ≤ 3) ∧ (1 ≤ a2 ∧ a2 ≤ 20) ∧ a3 < 1) ∨ ((1 ≤ a0 ∧ a0 ≤ 3) ∧ (1 ≤ a1 ∧ a1 ≤ 3) ∧ (1 ≤ a2 ∧ a2 ≤ 20) ∧ 1 ≤ a3 ∧ 16 < a3) := by omega
    clear hq hk
    rcases hk' with g1 | ⟨g1, g2⟩ | ⟨⟨g1, g2⟩, g3⟩ | ⟨⟨g1, g2⟩, g3, g4⟩ | ⟨⟨g1, g2⟩, ⟨g3, g4⟩, g5⟩ | ⟨⟨g1, g2⟩, ⟨g3, g4⟩, g5, g6⟩ | ⟨⟨g1, g2⟩, ⟨g3, g4⟩, ⟨g5, g6⟩, g7⟩ | ⟨⟨g1, g2⟩, ⟨g3, g4⟩, ⟨g5, g6⟩, g7, g8⟩
    all_goals
      go_enter Tryz.func5, Tryz.ntmps5
      go_wp2_with (fail)
      refine (HA.out _).mono ?_
      rintro e w1 ⟨rfl, b1⟩
      go_wp2
      go_ret
      exact ⟨rfl, BT.out _ _ B1.out b1⟩
  by_cases hq : (a0 < 1 ∨ 3 < a0 ∨ a1 < 1 ∨ 3 < a1 ∨ a2 < 1 ∨ 20 < a2 ∨ a3 < 1 ∨ 16 < a3)
  · exact quick hq
  clear hk quick
  obtain ⟨n, rfl⟩ : ∃ n : Nat, a2 = n := ⟨a2.toNat, by omega⟩
  obtain ⟨d, rfl⟩ : ∃ d : Nat, a3 = d := ⟨a3.toNat, by omega⟩
  obtain ⟨t, rfl⟩ : ∃ t : Nat, a1 = t := ⟨a1.toNat, by omega⟩
  have q1 : (1 : Int) ≤ t := by omega
  have q2 : (t : Int) ≤ 3 := by omega
  have q3 : (1 : Int) ≤ n := by omega
  have q4 : (n : Int) ≤ 20 := by omega
  have q5 : (1 : Int) ≤ d := by omega
  have q6 : (d : Int) ≤ 16 := by omega
  have hf : a0 = ((1 : Nat) : Int) ∨ a0 = ((2 : Nat) : Int) ∨ a0 = ((3 : Nat) : Int) := by omega
  have HBat := Lib.hid (fun (f : Nat) (f1 : 1 ≤ f) (f3 : f ≤ 3) u => deep_batch f t d n f1 f3 (by omega) (by omega) (by omega) (by omega) (by omega) (by omega) u)
  clear hq
  rcases hf with rfl | rfl | rfl
  · have HB := Lib.hid (fun u => HBat.out 1 (by omega) (by omega) u)
    simp only [show oneOf 1 = 91 from rfl] at HB
    have hcats := Lib.hid (fun k => rep_succ 91 k)
    clear HBat
    by_cases hnd : n > d
    all_goals
      first | simp only [if_pos hnd] at HB | simp only [if_neg hnd] at HB
      first | have hndI : (d : Int) < (n : Int) := (by omega) | have hndI : (n : Int) ≤ (d : Int) := (by omega)
      clear hnd
      go_enter Tryz.func5, Tryz.ntmps5
      go_wp2_with (fail)
      refine (HA.out _).mono ?_
      rintro e w1 ⟨rfl, b1⟩
      have HB1 := Lib.hid (BT.out _ _ B1.out b1)
      clear b1
      go_wp2_with (fail)
      go_loopw [10, 11] (fun s10 s11 wr => ∃ k : Nat, s11 = .int .i64 k ∧ k ≤ n ∧ s10 = .string (rep 91 k) ∧ Below w.heap.size w wr) (fun _ i _ => n - (intOf i).toNat)
      case atStart => exact ⟨0, rfl, Nat.zero_le _, rfl, B0.out _ _ HB1.out⟩
      case round =>
        obtain ⟨k, rfl, hkn, rfl, hb⟩ := hrel
        have HBr := Lib.hid hb
        clear hb
        by_cases hlt : k < n
        · have hltI : (k : Int) < (n : Int) := by omega
          have hcat := hcats.out k
          have hsz := rep_size 91 k
          go_wp2_with (fail)
          go_roundw
          case rel => exact ⟨k + 1, by go_num, by omega, rfl, HBr.out⟩
          case measure => simp [intOf]; omega
        · have hge : (n : Int) ≤ (k : Int) := by omega
          obtain rfl : k = n := by omega
          go_wp2_with (fail)
          refine (HB.out _).mono ?_
          rintro e w3 ⟨⟨X, rfl⟩, b3⟩
          have HB3 := Lib.hid (BT.out _ _ HBr.out b3)
          clear b3
          go_wp2
          go_ret
          exact ⟨rfl, HB3.out⟩
  · have HB := Lib.hid (fun u => HBat.out 2 (by omega) (by omega) u)
    simp only [show oneOf 2 = 129 from rfl] at HB
    have hcats := Lib.hid (fun k => rep_succ 129 k)
    clear HBat
    by_cases hnd : n > d
    all_goals
      first | simp only [if_pos hnd] at HB | simp only [if_neg hnd] at HB
      first | have hndI : (d : Int) < (n : Int) := (by omega) | have hndI : (n : Int) ≤ (d : Int) := (by omega)
      clear hnd
      go_enter Tryz.func5, Tryz.ntmps5
      go_wp2_with (fail)
      refine (HA.out _).mono ?_
      rintro e w1 ⟨rfl, b1⟩
      have HB1 := Lib.hid (BT.out _ _ B1.out b1)
      clear b1
      go_wp2_with (fail)
      go_loopw [10, 11] (fun s10 s11 wr => ∃ k : Nat, s11 = .int .i64 k ∧ k ≤ n ∧ s10 = .string (rep 129 k) ∧ Below w.heap.size w wr) (fun _ i _ => n - (intOf i).toNat)
      case atStart => exact ⟨0, rfl, Nat.zero_le _, rfl, B0.out _ _ HB1.out⟩
      case round =>
        obtain ⟨k, rfl, hkn, rfl, hb⟩ := hrel
        have HBr := Lib.hid hb
        clear hb
        by_cases hlt : k < n
        · have hltI : (k : Int) < (n : Int) := by omega
          have hcat := hcats.out k
          have hsz := rep_size 129 k
          go_wp2_with (fail)
          go_roundw
          case rel => exact ⟨k + 1, by go_num, by omega, rfl, HBr.out⟩
          case measure => simp [intOf]; omega
        · have hge : (n : Int) ≤ (k : Int) := by omega
          obtain rfl : k = n := by omega
          go_wp2_with (fail)
          refine (HB.out _).mono ?_
          rintro e w3 ⟨⟨X, rfl⟩, b3⟩
          have HB3 := Lib.hid (BT.out _ _ HBr.out b3)
          clear b3
          go_wp2
          go_ret
          exact ⟨rfl, HB3.out⟩
  · have HB := Lib.hid (fun u => HBat.out 3 (by omega) (by omega) u)
    simp only [show oneOf 3 = 145 from rfl] at HB
    have hcats := Lib.hid (fun k => rep_succ 145 k)
    clear HBat
    by_cases hnd : n > d
    all_goals
      first | simp only [if_pos hnd] at HB | simp only [if_neg hnd] at HB
      first | have hndI : (d : Int) < (n : Int) := (by omega) | have hndI : (n : Int) ≤ (d : Int) := (by omega)
      clear hnd
      go_enter Tryz.func5, Tryz.ntmps5
      go_wp2_with (fail)
      refine (HA.out _).mono ?_
      rintro e w1 ⟨rfl, b1⟩
      have HB1 := Lib.hid (BT.out _ _ B1.out b1)
      clear b1
      go_wp2_with (fail)
      go_loopw [10, 11] (fun s10 s11 wr => ∃ k : Nat, s11 = .int .i64 k ∧ k ≤ n ∧ s10 = .string (rep 145 k) ∧ Below w.heap.size w wr) (fun _ i _ => n - (intOf i).toNat)
      case atStart => exact ⟨0, rfl, Nat.zero_le _, rfl, B0.out _ _ HB1.out⟩
      case round =>
        obtain ⟨k, rfl, hkn, rfl, hb⟩ := hrel
        have HBr := Lib.hid hb
        clear hb
        by_cases hlt : k < n
        · have hltI : (k : Int) < (n : Int) := by omega
          have hcat := hcats.out k
          have hsz := rep_size 145 k
          go_wp2_with (fail)
          go_roundw
          case rel => exact ⟨k + 1, by go_num, by omega, rfl, HBr.out⟩
          case measure => simp [intOf]; omega
        · have hge : (n : Int) ≤ (k : Int) := by omega
          obtain rfl : k = n := by omega
          go_wp2_with (fail)
          refine (HB.out _).mono ?_
          rintro e w3 ⟨⟨X, rfl⟩, b3⟩
          have HB3 := Lib.hid (BT.out _ _ HBr.out b3)
          clear b3
          go_wp2
          go_ret
          exact ⟨rfl, HB3.out⟩
end Go.Proofs.YthnbpnfaghjamaaGreat.pipeDeep
