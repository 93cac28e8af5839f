/- BaseTells: the walk. -/
import Derived.Test.YtpdkolhnahpncaaAlive8
import Derived.Test.YtpdkolhnahpncaaRefUnbase
namespace Go.Proofs.Ytpdkolhnahpncaa.baseTells
open Go.RowKit

def pairOf (o : Option (List UInt8)) : ByteArray × Bool :=
  match o with
  | none => (⟨#[]⟩, false)
  | some l => (⟨l.toArray⟩, true)

theorem ans_pair (o : Option (List UInt8)) : Get.ans o = .returned (.tuple #[.string (pairOf o).1, .bool (pairOf o).2]) := by
  cases o <;> rfl

set_option maxHeartbeats 2000000 in
theorem main (a0 a1 : ByteArray) (a2 want : Int) (h1 : a0.size ≤ 300) (h2 : a1.size ≤ 300) (h3 : (a2 < 0 ∧ want = 0) ∨ (1000000 < a2 ∧ want = 0) ∨ (0 ≤ a2 ∧ a2 ≤ 1000000 ∧ want = (4 * a2 + 2) / 3)) (w : World) :
    Calls Try.prog 3 #[.string a0, .string a1, .int .i64 a2] w fun e w' => e = .returned (.bool true) ∧ Below w.heap.size w w' := by
  have hsz : a0.data.toList.length = a0.size := Array.length_toList
  have hpl := Base.put_length a0.data.toList
  have hLen := Base.len_put a0.data.toList (by omega)
  rw [hsz] at hLen
  have hW : Base.len a2 = want := by unfold Base.len; split <;> omega
  obtain ⟨p, hp⟩ : ∃ p : ByteArray, p = ⟨(Base.put a0.data.toList).toArray⟩ := ⟨_, rfl⟩
  have hpd : p.data.toList = Base.put a0.data.toList := by rw [hp]
  have hps : p.size = (Base.put a0.data.toList).length := by rw [hp, Mem.size_mk]
  have hp5 : p.size ≤ 1000 := by omega
  have hgp : Base.get p.data.toList = some a0.data.toList := by rw [hpd, Base.get_put]
  have Hb : Hid (∀ W1 W2 W3 W4 W5 : World, Below w.heap.size w W1 → Below W1.heap.size W1 W2 → Below W2.heap.size W2 W3 → Below W3.heap.size W3 W4 → Below W4.heap.size W4 W5 → Below w.heap.size w W5) := by
    intro W1 W2 W3 W4 W5 b1 b2 b3 b4 b5
    have := b1.size; have := b2.size; have := b3.size; have := b4.size
    exact (((b1.trans (b2.mono (by omega))).trans (b3.mono (by omega))).trans (b4.mono (by omega))).trans (b5.mono (by omega))
  have HG := Lib.hid (fun W => Get.of_some p (by omega) _ hgp W)
  have HP := Lib.hid hp
  have HPS := Lib.hid hps
  have HW := Lib.hid hW
  have HL := Lib.hid hLen
  clear hsz hpl hLen hW hp hpd hps hgp
  generalize hY : pairOf (Base.get a1.data.toList) = Y
  obtain ⟨y, is⟩ := Y
  have HY := Lib.hid hY
  clear hY
  rcases h3 with ⟨h3, hw0⟩ | ⟨h3, hw0⟩ | ⟨h3, h4, hw0⟩
  · go_enter Try.func3, Try.ntmps3
    go_wp2_with (fail)
    refine (Alive8.any w).mono ?_
    rintro e W1 ⟨rfl, b1⟩
    go_wp2_with (fail)
    refine (Put.any a0 W1 (by omega)).mono ?_
    rintro e W2 ⟨rfl, b2⟩
    rw [← HP.out]
    go_wp2_with (fail)
    refine (HG.out W2).mono ?_
    rintro e W3 ⟨rfl, b3⟩
    rw [Mem.mk_data]
    go_wp2_with (fail)
    refine (Get.any a1 W3 (by omega)).mono ?_
    rintro e W4 ⟨he, b4⟩
    rw [ans_pair, HY.out] at he
    subst he
    go_wp2_with (fail)
    refine (RefUnbase.any a1 W4 (by omega)).mono ?_
    rintro e W5 ⟨he, b5⟩
    rw [ans_pair, HY.out] at he
    subst he
    go_wp2_with (fail)
    refine (RefBase.any a0 W5 (by omega)).mono ?_
    rintro e W6 ⟨rfl, rfl⟩
    rw [← HP.out]
    go_wp2_with (fail)
    refine (Len.any _ W5).mono ?_
    rintro e W6 ⟨rfl, rfl⟩
    rw [HW.out]
    go_wp2_with (fail)
    refine (Len.any _ W5).mono ?_
    rintro e W6 ⟨rfl, rfl⟩
    rw [HL.out, ← HPS.out]
    go_wp2
    go_ret
    exact ⟨by simp, Hb.out W1 W2 W3 W4 W5 b1 b2 b3 b4 b5⟩
  · go_enter Try.func3, Try.ntmps3
    go_wp2_with (fail)
    refine (Alive8.any w).mono ?_
    rintro e W1 ⟨rfl, b1⟩
    go_wp2_with (fail)
    refine (Put.any a0 W1 (by omega)).mono ?_
    rintro e W2 ⟨rfl, b2⟩
    rw [← HP.out]
    go_wp2_with (fail)
    refine (HG.out W2).mono ?_
    rintro e W3 ⟨rfl, b3⟩
    rw [Mem.mk_data]
    go_wp2_with (fail)
    refine (Get.any a1 W3 (by omega)).mono ?_
    rintro e W4 ⟨he, b4⟩
    rw [ans_pair, HY.out] at he
    subst he
    go_wp2_with (fail)
    refine (RefUnbase.any a1 W4 (by omega)).mono ?_
    rintro e W5 ⟨he, b5⟩
    rw [ans_pair, HY.out] at he
    subst he
    go_wp2_with (fail)
    refine (RefBase.any a0 W5 (by omega)).mono ?_
    rintro e W6 ⟨rfl, rfl⟩
    rw [← HP.out]
    go_wp2_with (fail)
    refine (Len.any _ W5).mono ?_
    rintro e W6 ⟨rfl, rfl⟩
    rw [HW.out]
    go_wp2_with (fail)
    refine (Len.any _ W5).mono ?_
    rintro e W6 ⟨rfl, rfl⟩
    rw [HL.out, ← HPS.out]
    go_wp2
    go_ret
    exact ⟨by simp, Hb.out W1 W2 W3 W4 W5 b1 b2 b3 b4 b5⟩
  · go_enter Try.func3, Try.ntmps3
    go_wp2_with (fail)
    refine (Alive8.any w).mono ?_
    rintro e W1 ⟨rfl, b1⟩
    go_wp2_with (fail)
    refine (Put.any a0 W1 (by omega)).mono ?_
    rintro e W2 ⟨rfl, b2⟩
    rw [← HP.out]
    go_wp2_with (fail)
    refine (HG.out W2).mono ?_
    rintro e W3 ⟨rfl, b3⟩
    rw [Mem.mk_data]
    go_wp2_with (fail)
    refine (Get.any a1 W3 (by omega)).mono ?_
    rintro e W4 ⟨he, b4⟩
    rw [ans_pair, HY.out] at he
    subst he
    go_wp2_with (fail)
    refine (RefUnbase.any a1 W4 (by omega)).mono ?_
    rintro e W5 ⟨he, b5⟩
    rw [ans_pair, HY.out] at he
    subst he
    go_wp2_with (fail)
    refine (RefBase.any a0 W5 (by omega)).mono ?_
    rintro e W6 ⟨rfl, rfl⟩
    rw [← HP.out]
    go_wp2_with (fail)
    refine (Len.any _ W5).mono ?_
    rintro e W6 ⟨rfl, rfl⟩
    rw [HW.out]
    go_wp2_with (fail)
    refine (Len.any _ W5).mono ?_
    rintro e W6 ⟨rfl, rfl⟩
    rw [HL.out, ← HPS.out]
    go_wp2
    go_ret
    exact ⟨by simp, Hb.out W1 W2 W3 W4 W5 b1 b2 b3 b4 b5⟩

set_option maxHeartbeats 1000000 in
theorem walk (a0 : ByteArray) (a1 : ByteArray) (a2 : Int) (_w0 : a0.size ≤ maxLen) (_w1 : a1.size ≤ maxLen) (_w2 : (Lit.int .i64 a2).wf = true) (w : World) :
    Calls Try.prog 3 #[.string a0, .string a1, .int .i64 a2] w fun e w' => e = .returned (.bool true) ∧ Below w.heap.size w w' := by
  rcases (show 300 < a0.size ∨ (a0.size ≤ 300 ∧ 300 < a1.size) ∨ (a0.size ≤ 300 ∧ a1.size ≤ 300) by omega) with h1 | ⟨h1, h2⟩ | ⟨h1, h2⟩
  · go_enter Try.func3, Try.ntmps3
    go_wp2_with (fail)
    refine (Alive8.any w).mono ?_
    rintro e W1 ⟨rfl, b1⟩
    go_wp2
    go_ret
    exact ⟨rfl, b1⟩
  · go_enter Try.func3, Try.ntmps3
    go_wp2_with (fail)
    refine (Alive8.any w).mono ?_
    rintro e W1 ⟨rfl, b1⟩
    go_wp2
    go_ret
    exact ⟨rfl, b1⟩
  · by_cases h3 : a2 < 0
    · exact main a0 a1 a2 0 h1 h2 (.inl ⟨h3, rfl⟩) w
    · by_cases h4 : 1000000 < a2
      · exact main a0 a1 a2 0 h1 h2 (.inr (.inl ⟨h4, rfl⟩)) w
      · exact main a0 a1 a2 _ h1 h2 (.inr (.inr ⟨by omega, by omega, rfl⟩)) w
end Go.Proofs.Ytpdkolhnahpncaa.baseTells
