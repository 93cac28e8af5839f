/- BaseLengths: the walk. -/
import Derived.Test.YtpdkolhnahpncaaAlive8
namespace Go.Proofs.Ytpdkolhnahpncaa.baseLengths
open Go.RowKit
set_option maxHeartbeats 1000000 in
theorem walk (a0 : ByteArray) (_w0 : a0.size ≤ maxLen) (w : World) :
    Calls Try.prog 7 #[.string a0] w fun e w' => e = .returned (.bool true) ∧ Below w.heap.size w w' := by
  by_cases h200 : a0.size > 200
  · go_enter Try.func7, Try.ntmps7
    go_wp2_with (fail)
    refine (Alive8.any w).mono ?_
    rintro e w1 ⟨rfl, b1⟩
    go_wp2
    go_ret
    exact ⟨rfl, b1⟩
  · cases hg : Base.get a0.data.toList with
    | none =>
      go_enter Try.func7, Try.ntmps7
      go_wp2_with (fail)
      refine (Alive8.any w).mono ?_
      rintro e w1 ⟨rfl, b1⟩
      go_wp2_with (fail)
      refine (Get.any a0 w1 (by omega)).mono ?_
      rintro e w2 ⟨rfl, b2⟩
      rw [hg, Get.ans]
      go_wp2
      all_goals
        go_ret
        exact ⟨rfl, b1.trans (b2.mono b1.size)⟩
    | some out =>
      have hl := Base.get_length hg
      have hsz : a0.data.toList.length = a0.size := Array.length_toList
      have hp := Base.get_some hg
      have h4 : ((a0.size : Int) % 4 == 1) = false := by
        have : ¬ (a0.size : Int) % 4 = 1 := by omega
        simpa using this
      have hL : Base.len out.length = (a0.size : Int) := by
        rw [Base.len_put out (by omega), hp, hsz]
      have hol : out.length ≤ 200 := by omega
      have Hg := Lib.hid hg
      have HL := Lib.hid hL
      have Hp := Lib.hid hp
      clear hg hl hsz hL hp
      go_enter Try.func7, Try.ntmps7
      go_wp2_with (fail)
      refine (Alive8.any w).mono ?_
      rintro e w1 ⟨rfl, b1⟩
      go_wp2_with (fail)
      refine (Get.any a0 w1 (by omega)).mono ?_
      rintro e w2 ⟨rfl, b2⟩
      rw [Hg.out, Get.ans]
      go_wp2_with (fail)
      refine (Len.any _ w2).mono ?_
      rintro e w3 ⟨rfl, rfl⟩
      rw [HL.out]
      go_wp2_with (fail)
      refine (Put.any ⟨out.toArray⟩ w2 (by show out.toArray.size ≤ _; rw [List.size_toArray]; omega)).mono ?_
      rintro e w4 ⟨rfl, b4⟩
      rw [show (⟨out.toArray⟩ : ByteArray).data.toList = out from rfl, Hp.out]
      have hb : (a0.data.toList == a0.toList) = true := by rw [Mem.toList_eq]; simp
      go_wp2
      go_ret
      exact ⟨rfl, (b1.trans (b2.mono b1.size)).trans (b4.mono (by have := b1.size; have := b2.size; omega))⟩
end Go.Proofs.Ytpdkolhnahpncaa.baseLengths
