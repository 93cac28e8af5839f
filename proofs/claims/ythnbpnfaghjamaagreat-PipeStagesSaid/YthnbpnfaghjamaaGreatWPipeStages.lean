/- PipeStages: the walk. -/
import Derived.Test.YthnbpnfaghjamaaGreatStM
import Derived.Handy
namespace Go.Proofs.YthnbpnfaghjamaaGreat.pipeStages
open Go.RowKit Pip

/-- What is written of the list, so far. -/
def part (k : Nat) : ByteArray := ⟨(sdoc k).toArray⟩
theorem part_first : part 0 ++ (⟨#[53]⟩ : ByteArray) = part 1 := by
  apply ByteArray.ext
  apply Array.toList_inj.1
  simp [part, sdoc, ByteArray.data_append]
theorem part_next (k : Nat) (h : k ≠ 0) : part k ++ (⟨#[44]⟩ : ByteArray) ++ (⟨#[53]⟩ : ByteArray) = part (k + 1) := by
  apply ByteArray.ext
  apply Array.toList_inj.1
  simp [part, sdoc, if_neg h, ByteArray.data_append]
theorem part_end (k : Nat) : part k ++ (⟨#[93]⟩ : ByteArray) = ⟨(sdoc k ++ [93]).toArray⟩ := by
  apply ByteArray.ext
  apply Array.toList_inj.1
  simp [part, ByteArray.data_append]
theorem part_size (k : Nat) : (part k).size ≤ 2 * k + 1 := by
  show (sdoc k).toArray.size ≤ _
  simpa using sdoc_len k

set_option maxRecDepth 100000 in
set_option maxHeartbeats 8000000 in
theorem walk (a0 a1 : Int) (_w0 : (Lit.int .i64 a0).wf = true) (_w1 : (Lit.int .i64 a1).wf = true) (w : World) :
    Calls Tryz.prog 8 #[.int .i64 a0, .int .i64 a1] w fun e w' => e = .returned (.bool true) ∧ Below w.heap.size w w' := by
  have HA := Lib.hid (fun u => alive18_any u)
  have BT := Lib.hid (fun (u v : World) (b : Below w.heap.size w u) (b2 : Below u.heap.size u v) => (b.trans (b2.mono b.size) : Below w.heap.size w v))
  have B1 := Lib.hid (Below.refl w.heap.size w)
  have quick : (a0 < 1 ∨ 100 < a0 ∨ a1 < 1 ∨ 3 < a1) → Calls Tryz.prog 8 #[.int .i64 a0, .int .i64 a1] w fun e w' => e = .returned (.bool true) ∧ Below w.heap.size w w' := by
    intro hq
    have hk' : a0 < 1 ∨ (1 ≤ a0 ∧ 100 < a0) ∨ ((1 ≤ a0 ∧ a0 ≤ 100) ∧ a1 < 1) ∨ ((1 ≤ a0 ∧ a0 ≤ 100) ∧ 1 ≤ a1 ∧ 3 < a1) := by omega
    clear hq
    rcases hk' with g1 | ⟨g1, g2⟩ | ⟨⟨g1, g2⟩, g3⟩ | ⟨⟨g1, g2⟩, g3, g4⟩
    all_goals
      go_enter Tryz.func8, Tryz.ntmps8
      go_wp2_with (fail)
      refine (HA.out _).mono ?_
      rintro e w1 ⟨rfl, b1⟩
      go_wp2
      go_ret
      exact ⟨rfl, BT.out _ _ B1.out b1⟩
  by_cases hq : (a0 < 1 ∨ 100 < a0 ∨ a1 < 1 ∨ 3 < a1)
  · exact quick hq
  clear quick
  obtain ⟨n, rfl⟩ : ∃ n : Nat, a0 = n := ⟨a0.toNat, by omega⟩
  obtain ⟨t, rfl⟩ : ∃ t : Nat, a1 = t := ⟨a1.toNat, by omega⟩
  have q1 : (1 : Int) ≤ t := by omega
  have q2 : (t : Int) ≤ 3 := by omega
  have q3 : (1 : Int) ≤ n := by omega
  have q4 : (n : Int) ≤ 100 := by omega
  obtain ⟨X, Y, hX, hY, hE, hG⟩ := stage_batch t n (by omega) (by omega) (by omega) (by omega)
  have hcF := Lib.hid part_first
  have hcN := Lib.hid part_next
  have hcE := Lib.hid (part_end n)
  rw [← part_end n] at hX hY
  generalize hZ : part n ++ (⟨#[93]⟩ : ByteArray) = Z at hX hY
  have HZ := Lib.hid hZ
  have hw1 : IntKind.i64.wrap ((n : Int) + 1) = (n : Int) + 1 := by rw [IntKind.wrap_i64]; omega
  by_cases h3 : t = 3
  · obtain ⟨rfl, hlt⟩ := hG h3
    have hltI : (n : Int) < (X.size : Int) := by omega
    rw [if_pos h3] at hY
    subst h3
    have HX := Lib.hid hX
    have HY := Lib.hid hY
    clear hX hY hE hG hq hlt hZ q1 q2
    go_enter Tryz.func8, Tryz.ntmps8
    go_wp2_with (fail)
    refine (HA.out _).mono ?_
    rintro e w1 ⟨rfl, b1⟩
    have HB1 := Lib.hid (BT.out _ _ B1.out b1)
    clear b1
    go_wp2_with (fail)
    go_loopw [5, 6] (fun s5 s6 wr => ∃ k : Nat, s6 = .int .i64 k ∧ k ≤ n ∧ s5 = .string (part k) ∧ Below w.heap.size w wr) (fun _ i _ => n - (intOf i).toNat)
    case atStart => exact ⟨0, rfl, Nat.zero_le _, rfl, HB1.out⟩
    case round =>
      obtain ⟨k, rfl, hkn, rfl, hb⟩ := hrel
      have HBr := Lib.hid hb
      clear hb
      by_cases hlt : k < n
      · have hltI : (k : Int) < (n : Int) := by omega
        have hsz := part_size k
        by_cases hk0 : k = 0
        · subst hk0
          have hcat := hcF.out
          go_wp2_with (fail)
          go_roundw
          case rel => exact ⟨1, by go_num, by omega, rfl, HBr.out⟩
          case measure => simp [intOf]; omega
        · have hcat := hcN.out k hk0
          have hpos : (0 : Int) < (k : Int) := by omega
          clear hk0
          go_wp2_with (fail)
          go_roundw
          case rel => exact ⟨k + 1, by go_num, by omega, rfl, HBr.out⟩
          case measure => simp [intOf]; omega
      · have hge : (n : Int) ≤ (k : Int) := by omega
        obtain rfl : k = n := by omega
        have hcat := HZ.out
        have hsz := part_size k
        go_wp2_with (fail)
        refine (HX.out _).mono ?_
        rintro e w2 ⟨rfl, b2⟩
        have HB2 := Lib.hid (BT.out _ _ HBr.out b2)
        clear b2
        go_wp2_with (fail)
        refine (HY.out _).mono ?_
        rintro e w3 ⟨rfl, b3⟩
        have HB3 := Lib.hid (BT.out _ _ HB2.out b3)
        clear b3
        go_wp2
        go_ret
        exact ⟨rfl, HB3.out⟩
  · obtain rfl := hE h3
    rw [if_neg h3] at hY
    have h3b : ((t : Int) == 3) = false := by rw [beq_eq_false_iff_ne]; omega
    have HX := Lib.hid hX
    have HY := Lib.hid hY
    clear hX hY hE hG hq hZ h3
    go_enter Tryz.func8, Tryz.ntmps8
    go_wp2_with (fail)
    refine (HA.out _).mono ?_
    rintro e w1 ⟨rfl, b1⟩
    have HB1 := Lib.hid (BT.out _ _ B1.out b1)
    clear b1
    go_wp2_with (fail)
    go_loopw [5, 6] (fun s5 s6 wr => ∃ k : Nat, s6 = .int .i64 k ∧ k ≤ n ∧ s5 = .string (part k) ∧ Below w.heap.size w wr) (fun _ i _ => n - (intOf i).toNat)
    case atStart => exact ⟨0, rfl, Nat.zero_le _, rfl, HB1.out⟩
    case round =>
      obtain ⟨k, rfl, hkn, rfl, hb⟩ := hrel
      have HBr := Lib.hid hb
      clear hb
      by_cases hlt : k < n
      · have hltI : (k : Int) < (n : Int) := by omega
        have hsz := part_size k
        by_cases hk0 : k = 0
        · subst hk0
          have hcat := hcF.out
          go_wp2_with (fail)
          go_roundw
          case rel => exact ⟨1, by go_num, by omega, rfl, HBr.out⟩
          case measure => simp [intOf]; omega
        · have hcat := hcN.out k hk0
          have hpos : (0 : Int) < (k : Int) := by omega
          clear hk0
          go_wp2_with (fail)
          go_roundw
          case rel => exact ⟨k + 1, by go_num, by omega, rfl, HBr.out⟩
          case measure => simp [intOf]; omega
      · have hge : (n : Int) ≤ (k : Int) := by omega
        obtain rfl : k = n := by omega
        have hcat := HZ.out
        have hsz := part_size k
        go_wp2_with (fail)
        refine (HX.out _).mono ?_
        rintro e w2 ⟨rfl, b2⟩
        have HB2 := Lib.hid (BT.out _ _ HBr.out b2)
        clear b2
        go_wp2_with (fail)
        refine (HY.out _).mono ?_
        rintro e w3 ⟨rfl, b3⟩
        have HB3 := Lib.hid (BT.out _ _ HB2.out b3)
        clear b3
        go_wp2
        go_ret
        exact ⟨rfl, HB3.out⟩
end Go.Proofs.YthnbpnfaghjamaaGreat.pipeStages
