/- truchmanbook.text: a text out of a number. -/
import Derived.Test.YtopaadmnlghdaaaDoorJsonD
namespace Go.Proofs.YtopaadmnlghdaaaDoor
open Go.RowKit
namespace Json

theorem pick (y : Nat) (hy : y < 8) : ∃ S : ByteArray, S.data.toList = signsOf.getD y [] ∧ S.size ≤ 4 ∧ ∀ h : y < 8, [Value.string ⟨#[97]⟩, Value.string ⟨#[34]⟩, Value.string ⟨#[92]⟩, Value.string ⟨#[10]⟩, Value.string ⟨#[195, 169]⟩, Value.string ⟨#[1]⟩, Value.string ⟨#[240, 157, 132, 158]⟩, Value.string ⟨#[122]⟩][y]'h = .string S := by
  rcases (show y = 0 ∨ y = 1 ∨ y = 2 ∨ y = 3 ∨ y = 4 ∨ y = 5 ∨ y = 6 ∨ y = 7 by omega) with rfl | rfl | rfl | rfl | rfl | rfl | rfl | rfl
  all_goals exact ⟨_, rfl, by decide, fun _ => rfl⟩

set_option maxRecDepth 100000 in
set_option maxHeartbeats 4000000 in
theorem textOf_any (x : Nat) (hx : x < 65536) (w : World) :
    Calls Tryd.prog 33 #[.int .i64 (x : Int)] w fun e w' => e = .returned (.string ⟨(textOf x).toArray⟩) ∧ Below w.heap.size w w' := by
  have h7 : bits .and .i64 (x : Int) 7 = ((x % 8 : Nat) : Int) := by
    have := Int64.andMask x 3 (by decide) (by omega)
    rw [← show x % 2 ^ 3 = x % 8 from rfl, ← this]; rfl
  have hm : ∀ k : Nat, bits .and .i64 ((x / 2 ^ k : Nat) : Int) 7 = ((x / 2 ^ k % 8 : Nat) : Int) := fun k => by
    have hle : x / 2 ^ k ≤ x := Nat.div_le_self _ _
    have := Int64.andMask (x / 2 ^ k) 3 (by decide) (by omega)
    rw [← show (x / 2 ^ k) % 2 ^ 3 = x / 2 ^ k % 8 from rfl, ← this]; rfl
  have HM := Lib.hid hm
  obtain ⟨r, hr⟩ : ∃ r, r = x % 8 := ⟨_, rfl⟩
  have hr8 : r < 8 := by omega
  rw [← hr] at h7
  have HR := Lib.hid hr
  clear hr hm
  go_enter Tryd.func33, Tryd.ntmps33
  go_wp2_with (fail)
  go_loopw [3, 4] (fun s i wr => ∃ (k : Nat) (O : ByteArray), s = .string O ∧ i = .int .i64 k ∧ k ≤ r ∧ Below w.heap.size w wr ∧ O.size ≤ 4 * (8 - k) ∧ textOf x = O.data.toList ++ textGo x k) (fun _ i _ => (intOf i).toNat)
  case atStart => exact ⟨r, ⟨#[]⟩, rfl, rfl, Nat.le_refl _, Below.refl _ _, Nat.zero_le _, by rw [HR.out]; rfl⟩
  case round =>
    obtain ⟨k, O, rfl, rfl, hk, hb, hO, hT⟩ := hrel
    have HT := Lib.hid hT
    have HBw := Lib.hid hb
    clear hT hb
    by_cases hk0 : k = 0
    · have hO2 := Lib.hid (show textOf x = O.data.toList by rw [HT.out, hk0, textGo, List.append_nil])
      subst hk0
      go_wp2_with (fail)
      go_ret
      exact ⟨Own.ret_string (by rw [hO2.out, Mem.mk_data]), HBw.out⟩
    · obtain ⟨j, rfl⟩ : ∃ j, k = j + 1 := ⟨k - 1, by omega⟩
      rcases (show j = 0 ∨ j = 1 ∨ j = 2 ∨ j = 3 ∨ j = 4 ∨ j = 5 ∨ j = 6 by omega) with rfl | rfl | rfl | rfl | rfl | rfl | rfl
      · obtain ⟨y, hy⟩ : ∃ y, y = x / 2 % 8 := ⟨_, rfl⟩
        have hb7 : bits .and .i64 ((x : Int) / 2) 7 = (y : Int) := by
          have := HM.out 1
          rw [hy]; exact this
        have hy8 : y < 8 := by omega
        obtain ⟨S, hS, hSs, hel⟩ := pick y hy8
        have HS := Lib.hid (show textGo x 1 = S.data.toList ++ textGo x 0 by rw [hS, hy]; rfl)
        clear hy hS
        go_wp2_with (fail)
        refine ⟨⟨0, O ++ S, rfl, by go_num, by omega, HBw.out.alloc HBw.out.size _, by rw [ByteArray.size_append]; omega, ?_⟩, by simp [intOf]⟩
        rw [HT.out, HS.out]
        simp
      · obtain ⟨y, hy⟩ : ∃ y, y = x / 4 % 8 := ⟨_, rfl⟩
        have hb7 : bits .and .i64 ((x : Int) / 4) 7 = (y : Int) := by
          have := HM.out 2
          rw [hy]; exact this
        have hy8 : y < 8 := by omega
        obtain ⟨S, hS, hSs, hel⟩ := pick y hy8
        have HS := Lib.hid (show textGo x 2 = S.data.toList ++ textGo x 1 by rw [hS, hy]; rfl)
        clear hy hS
        go_wp2_with (fail)
        refine ⟨⟨1, O ++ S, rfl, by go_num, by omega, HBw.out.alloc HBw.out.size _, by rw [ByteArray.size_append]; omega, ?_⟩, by simp [intOf]⟩
        rw [HT.out, HS.out]
        simp
      · obtain ⟨y, hy⟩ : ∃ y, y = x / 8 % 8 := ⟨_, rfl⟩
        have hb7 : bits .and .i64 ((x : Int) / 8) 7 = (y : Int) := by
          have := HM.out 3
          rw [hy]; exact this
        have hy8 : y < 8 := by omega
        obtain ⟨S, hS, hSs, hel⟩ := pick y hy8
        have HS := Lib.hid (show textGo x 3 = S.data.toList ++ textGo x 2 by rw [hS, hy]; rfl)
        clear hy hS
        go_wp2_with (fail)
        refine ⟨⟨2, O ++ S, rfl, by go_num, by omega, HBw.out.alloc HBw.out.size _, by rw [ByteArray.size_append]; omega, ?_⟩, by simp [intOf]⟩
        rw [HT.out, HS.out]
        simp
      · obtain ⟨y, hy⟩ : ∃ y, y = x / 16 % 8 := ⟨_, rfl⟩
        have hb7 : bits .and .i64 ((x : Int) / 16) 7 = (y : Int) := by
          have := HM.out 4
          rw [hy]; exact this
        have hy8 : y < 8 := by omega
        obtain ⟨S, hS, hSs, hel⟩ := pick y hy8
        have HS := Lib.hid (show textGo x 4 = S.data.toList ++ textGo x 3 by rw [hS, hy]; rfl)
        clear hy hS
        go_wp2_with (fail)
        refine ⟨⟨3, O ++ S, rfl, by go_num, by omega, HBw.out.alloc HBw.out.size _, by rw [ByteArray.size_append]; omega, ?_⟩, by simp [intOf]⟩
        rw [HT.out, HS.out]
        simp
      · obtain ⟨y, hy⟩ : ∃ y, y = x / 32 % 8 := ⟨_, rfl⟩
        have hb7 : bits .and .i64 ((x : Int) / 32) 7 = (y : Int) := by
          have := HM.out 5
          rw [hy]; exact this
        have hy8 : y < 8 := by omega
        obtain ⟨S, hS, hSs, hel⟩ := pick y hy8
        have HS := Lib.hid (show textGo x 5 = S.data.toList ++ textGo x 4 by rw [hS, hy]; rfl)
        clear hy hS
        go_wp2_with (fail)
        refine ⟨⟨4, O ++ S, rfl, by go_num, by omega, HBw.out.alloc HBw.out.size _, by rw [ByteArray.size_append]; omega, ?_⟩, by simp [intOf]⟩
        rw [HT.out, HS.out]
        simp
      · obtain ⟨y, hy⟩ : ∃ y, y = x / 64 % 8 := ⟨_, rfl⟩
        have hb7 : bits .and .i64 ((x : Int) / 64) 7 = (y : Int) := by
          have := HM.out 6
          rw [hy]; exact this
        have hy8 : y < 8 := by omega
        obtain ⟨S, hS, hSs, hel⟩ := pick y hy8
        have HS := Lib.hid (show textGo x 6 = S.data.toList ++ textGo x 5 by rw [hS, hy]; rfl)
        clear hy hS
        go_wp2_with (fail)
        refine ⟨⟨5, O ++ S, rfl, by go_num, by omega, HBw.out.alloc HBw.out.size _, by rw [ByteArray.size_append]; omega, ?_⟩, by simp [intOf]⟩
        rw [HT.out, HS.out]
        simp
      · obtain ⟨y, hy⟩ : ∃ y, y = x / 128 % 8 := ⟨_, rfl⟩
        have hb7 : bits .and .i64 ((x : Int) / 128) 7 = (y : Int) := by
          have := HM.out 7
          rw [hy]; exact this
        have hy8 : y < 8 := by omega
        obtain ⟨S, hS, hSs, hel⟩ := pick y hy8
        have HS := Lib.hid (show textGo x 7 = S.data.toList ++ textGo x 6 by rw [hS, hy]; rfl)
        clear hy hS
        go_wp2_with (fail)
        refine ⟨⟨6, O ++ S, rfl, by go_num, by omega, HBw.out.alloc HBw.out.size _, by rw [ByteArray.size_append]; omega, ?_⟩, by simp [intOf]⟩
        rw [HT.out, HS.out]
        simp
end Json
end Go.Proofs.YtopaadmnlghdaaaDoor
