/- base.Len, and the law's first look. -/
import Derived.Test.YtpdkolhnahpncaaGet
namespace Go.Proofs.Ytpdkolhnahpncaa
open Go.RowKit
namespace Len
set_option maxHeartbeats 400000 in
theorem any (n : Int) (w : World) : Calls Try.prog 13 #[.int .i64 n] w fun e w' => e = .returned (.int .i64 (Base.len n)) ∧ w = w' := by
  by_cases h0 : n < 0
  · go_enter Try.func13, Try.ntmps13
    go_wp2
    go_ret
    exact ⟨by simp [Base.len, h0], rfl⟩
  · by_cases h1 : 1000000 < n
    · go_enter Try.func13, Try.ntmps13
      go_wp2
      go_ret
      exact ⟨by simp [Base.len, h1], rfl⟩
    · go_enter Try.func13, Try.ntmps13
      go_wp2
      go_ret
      exact ⟨by rw [Base.len, if_neg (by omega)]; rfl, rfl⟩
end Len
namespace Alive8
theorem g1 : Base.get [97, 71, 107] = some [104, 105] := by decide +kernel
theorem g2 : Base.get [97, 71, 108] = none := by decide +kernel
theorem p1 : Base.put [104, 105] = [97, 71, 107] := by decide +kernel
theorem l1 : Base.len 4 = 6 := by decide +kernel

def ka : ByteArray := ⟨#[97, 71, 107]⟩
def kb : ByteArray := ⟨#[97, 71, 108]⟩
def kc : ByteArray := ⟨#[104, 105]⟩

theorem getA (w : World) : Calls Try.prog 10 #[.string ⟨#[97, 71, 107]⟩] w fun e w' => e = .returned (.tuple #[.string ⟨#[104, 105]⟩, .bool true]) ∧ Below w.heap.size w w' := by
  have h : ka.size ≤ 100000 := by have : ka.size = 3 := rfl; omega
  refine (Get.any ka w h).mono ?_
  rintro e w1 ⟨he, b1⟩
  exact ⟨by rw [he, show ka.data.toList = [97, 71, 107] from rfl, g1]; rfl, b1⟩

theorem getB (w : World) : Calls Try.prog 10 #[.string ⟨#[97, 71, 108]⟩] w fun e w' => e = .returned (.tuple #[.string ⟨#[]⟩, .bool false]) ∧ Below w.heap.size w w' := by
  have h : kb.size ≤ 100000 := by have : kb.size = 3 := rfl; omega
  refine (Get.any kb w h).mono ?_
  rintro e w1 ⟨he, b1⟩
  exact ⟨by rw [he, show kb.data.toList = [97, 71, 108] from rfl, g2]; rfl, b1⟩

theorem putC (w : World) : Calls Try.prog 9 #[.string ⟨#[104, 105]⟩] w fun e w' => e = .returned (.string ⟨#[97, 71, 107]⟩) ∧ Below w.heap.size w w' := by
  have h : kc.size ≤ 1000000 := by have : kc.size = 2 := rfl; omega
  refine (Put.any kc w h).mono ?_
  rintro e w1 ⟨rfl, b1⟩
  exact ⟨by rw [show kc.data.toList = [104, 105] from rfl, p1], b1⟩

theorem len4 (w : World) : Calls Try.prog 13 #[.int .i64 4] w fun e w' => e = .returned (.int .i64 6) ∧ w = w' := by
  have := Len.any 4 w
  rwa [l1] at this

set_option maxHeartbeats 400000 in
theorem any (w : World) : Calls Try.prog 8 #[] w fun e w' => e = .returned (.bool true) ∧ Below w.heap.size w w' := by
  go_enter Try.func8, Try.ntmps8
  go_wp2_with (fail)
  refine (getA w).mono ?_
  rintro e w1 ⟨rfl, b1⟩
  go_wp2_with (fail)
  refine (getB w1).mono ?_
  rintro e w2 ⟨rfl, b2⟩
  go_wp2_with (fail)
  refine (putC w2).mono ?_
  rintro e w3 ⟨rfl, b3⟩
  go_wp2_with (fail)
  refine (len4 w3).mono ?_
  rintro e w4 ⟨rfl, rfl⟩
  go_wp2
  go_ret
  exact ⟨rfl, (b1.trans (b2.mono b1.size)).trans (b3.mono (by have := b1.size; have := b2.size; omega))⟩
end Alive8
end Go.Proofs.Ytpdkolhnahpncaa
