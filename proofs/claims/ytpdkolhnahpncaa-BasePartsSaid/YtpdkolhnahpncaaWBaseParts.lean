/- BaseParts: the walk. -/
import Derived.Test.YtpdkolhnahpncaaAlive8
import Derived.Test.YtpdkolhnahpncaaPlainB
namespace Go.Proofs.Ytpdkolhnahpncaa.baseParts
open Go.RowKit
set_option maxHeartbeats 1000000 in
theorem walk (a0 : ByteArray) (a1 : ByteArray) (_w0 : a0.size ≤ maxLen) (_w1 : a1.size ≤ maxLen) (w : World) :
    Calls Try.prog 4 #[.string a0, .string a1] w fun e w' => e = .returned (.bool true) ∧ Below w.heap.size w w' := by
  by_cases hc : a0.size ≤ 200 ∧ a1.size ≤ 200 ∧ a0.size % 3 = 0
  · obtain ⟨h1, h2, h3⟩ := hc
    have h4 : ((a0.size : Int) % 3 != 0) = false := by simp; omega
    have H3 := Lib.hid h3
    clear h3
    go_enter Try.func4, Try.ntmps4
    go_wp2_with (fail)
    refine (Alive8.any w).mono ?_
    rintro e w1 ⟨rfl, b1⟩
    go_wp2_with (fail)
    refine (Put.any (a0 ++ a1) w1 (by rw [ByteArray.size_append]; omega)).mono ?_
    rintro e w2 ⟨rfl, b2⟩
    go_wp2_with (fail)
    refine (Put.any a0 w2 (by omega)).mono ?_
    rintro e w3 ⟨rfl, b3⟩
    go_wp2_with (fail)
    refine (Put.any a1 w3 (by omega)).mono ?_
    rintro e w4 ⟨rfl, b4⟩
    rw [Base.put_append _ _ (by have : a0.data.toList.length = a0.size := Array.length_toList; have := H3.out; omega)]
    have l0 : (Base.put a0.data.toList).length ≤ 400 := by
      rw [Base.put_length]; have : a0.data.toList.length = a0.size := Array.length_toList; omega
    have l1 : (Base.put a1.data.toList).length ≤ 400 := by
      rw [Base.put_length]; have : a1.data.toList.length = a1.size := Array.length_toList; omega
    generalize Base.put a0.data.toList = p0 at *
    generalize Base.put a1.data.toList = p1 at *
    go_wp2
    go_ret
    have := b1.size; have := b2.size; have := b3.size
    exact ⟨Mem.ret_bool (by rw [Mem.append_mk, Mem.toList_eq]; simp), ((b1.trans (b2.mono (by omega))).trans (b3.mono (by omega))).trans (b4.mono (by omega))⟩
  · rcases (show 200 < a0.size ∨ (a0.size ≤ 200 ∧ 200 < a1.size) ∨ (a0.size ≤ 200 ∧ a1.size ≤ 200 ∧ a0.size % 3 ≠ 0) by omega) with h1 | ⟨h1, h2⟩ | ⟨h1, h2, h3⟩
    · go_enter Try.func4, Try.ntmps4
      go_wp2_with (fail)
      refine (Alive8.any w).mono ?_
      rintro e w1 ⟨rfl, b1⟩
      go_wp2
      go_ret
      exact ⟨rfl, b1⟩
    · go_enter Try.func4, Try.ntmps4
      go_wp2_with (fail)
      refine (Alive8.any w).mono ?_
      rintro e w1 ⟨rfl, b1⟩
      go_wp2
      go_ret
      exact ⟨rfl, b1⟩
    · have h4 : ((a0.size : Int) % 3 != 0) = true := by simp; omega
      go_enter Try.func4, Try.ntmps4
      go_wp2_with (fail)
      refine (Alive8.any w).mono ?_
      rintro e w1 ⟨rfl, b1⟩
      go_wp2
      go_ret
      exact ⟨rfl, b1⟩
end Go.Proofs.Ytpdkolhnahpncaa.baseParts
