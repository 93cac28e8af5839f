/- BaseSigns: the walk. -/
import Derived.Test.YtpdkolhnahpncaaAlive8
import Derived.Test.YtpdkolhnahpncaaPlainB
namespace Go.Proofs.Ytpdkolhnahpncaa.baseSigns
open Go.RowKit

theorem classes (c : UInt8) (h : Base.isSign c = true) : (65 ≤ c.toNat ∧ c.toNat ≤ 90) ∨ (97 ≤ c.toNat ∧ c.toNat ≤ 122) ∨ (48 ≤ c.toNat ∧ c.toNat ≤ 57) ∨ c.toNat = 45 ∨ c.toNat = 95 := by
  simp only [Base.isSign, Bool.or_eq_true, Bool.and_eq_true, decide_eq_true_eq, UInt8.le_iff_toNat_le, beq_iff_eq] at h
  rcases h with ((h | h) | h) | h
  · rcases h with h | h
    · exact .inl h
    · exact .inr (.inl h)
  · exact .inr (.inr (.inl h))
  · subst h; exact .inr (.inr (.inr (.inl rfl)))
  · subst h; exact .inr (.inr (.inr (.inr rfl)))

set_option maxHeartbeats 2000000 in
theorem walk (a0 : ByteArray) (_w0 : a0.size ≤ maxLen) (w : World) :
    Calls Try.prog 5 #[.string a0] w fun e w' => e = .returned (.bool true) ∧ Below w.heap.size w w' := by
  by_cases h200 : a0.size > 300
  · go_enter Try.func5, Try.ntmps5
    go_wp2_with (fail)
    refine (Alive8.any w).mono ?_
    rintro e w1 ⟨rfl, b1⟩
    go_wp2
    go_ret
    exact ⟨rfl, b1⟩
  · have hsz : a0.data.toList.length = a0.size := Array.length_toList
    have hL := Base.len_put a0.data.toList (by omega)
    have hS := Base.put_isSign a0.data.toList
    have hlen := Base.put_length a0.data.toList
    rw [hsz] at hL
    have hl : (Base.put a0.data.toList).length ≤ 500 := by omega
    have HL := Lib.hid hL
    have HS := Lib.hid hS
    clear hL hlen hsz hS
    go_enter Try.func5, Try.ntmps5
    go_wp2_with (fail)
    refine (Alive8.any w).mono ?_
    rintro e w1 ⟨rfl, b1⟩
    go_wp2_with (fail)
    refine (Put.any a0 w1 (by omega)).mono ?_
    rintro e w2 ⟨rfl, b2⟩
    obtain ⟨p, hp⟩ : ∃ p : ByteArray, p = ⟨(Base.put a0.data.toList).toArray⟩ := ⟨_, rfl⟩
    rw [← hp]
    have hpl : p.size = (Base.put a0.data.toList).length := by rw [hp, Mem.size_mk]
    have hps : ∀ k (h : k < p.size), Base.isSign (p[k]'h) = true := by
      intro k h
      apply HS.out
      subst hp
      exact List.mem_of_getElem? (i := k) (by rw [List.getElem?_eq_getElem (by rw [← hpl]; exact h)]; rfl)
    have hp5 : p.size ≤ 500 := by omega
    have HPL := Lib.hid hpl
    have HPS := Lib.hid hps
    clear hp hpl hps hl
    go_wp2
    go_loop [4] (fun i => ∃ k : Nat, i = .int .i64 k ∧ k ≤ p.size) (fun i => p.size - (intOf i).toNat)
    case atStart => exact ⟨0, rfl, by omega⟩
    case round =>
      obtain ⟨k, rfl, hk⟩ := hrel
      by_cases hlt : k < p.size
      · have hc := classes _ (HPS.out k hlt)
        rcases hc with ⟨c1, c2⟩ | ⟨c1, c2⟩ | ⟨c1, c2⟩ | c1 | c1
        · go_wp2
          go_round
          case rel => exact ⟨k + 1, by go_num, by omega⟩
          case measure => simp [intOf]; omega
        · go_wp2
          go_round
          case rel => exact ⟨k + 1, by go_num, by omega⟩
          case measure => simp [intOf]; omega
        · go_wp2
          go_round
          case rel => exact ⟨k + 1, by go_num, by omega⟩
          case measure => simp [intOf]; omega
        · go_wp2
          go_round
          case rel => exact ⟨k + 1, by go_num, by omega⟩
          case measure => simp [intOf]; omega
        · go_wp2
          go_round
          case rel => exact ⟨k + 1, by go_num, by omega⟩
          case measure => simp [intOf]; omega
      · go_wp2_with (fail)
        refine (Len.any _ w2).mono ?_
        rintro e w3 ⟨rfl, rfl⟩
        rw [HL.out, ← HPL.out]
        go_wp2
        go_ret
        exact ⟨rfl, b1.trans (b2.mono b1.size)⟩
end Go.Proofs.Ytpdkolhnahpncaa.baseSigns
